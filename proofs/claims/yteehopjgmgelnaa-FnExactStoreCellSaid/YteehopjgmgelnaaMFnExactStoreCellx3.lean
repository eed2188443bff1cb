/- The walks of what FnExactStoreCell reaches: lines of the kit's print for this claim, turned by hand where they did not build. -/
import Derived.Test.YteehopjgmgelnaaMFnExactStoreCellx0
import Derived.Test.YteehopjgmgelnaaMFnExactStoreCellx1
import Derived.Test.YteehopjgmgelnaaMFnExactStoreCellx2
namespace Go.Proofs.Yteehopjgmgelnaa.PFnExactStoreCell
open Go.RowKit Go.Proofs.YteehopjgmgelnaaW.PrintWords Go.Proofs.YteehopjgmgelnaaW.PrintLast Go.Proofs.YteehopjgmgelnaaW.PrintMore
attribute [local go_sem] max2_int min2_int max_two min_two max_three min_three max_four min_four   -- for this text's walks alone
set_option linter.unusedVariables false
set_option linter.unusedSimpArgs false

/-! ### laws_FnExactStoreCell: function 5 -/
mutual
def laws_FnExactStoreCell.j0 : Nat → Int → Int → Bool → Bool → Bool → List Int → Int → Int → List Int → List Int → List Int → Option (Bool)
  | 0, _, _, _, _, _, _, _, _, _, _, _ => none
  | k + 1, x2, x3, x11, x14, x54, x174000, x175000, x175001, x186000, x190000, x197000 => if x54 = true then (some false) else ((laws_toArena.f k x174000).bind fun t198 => ((laws_eqArena.f k x190000 t198).bind fun t201 => (if t201 = true then ((laws_markArena.f k x190000 1).bind fun bt202 => (if bt202.1 < 0 then (laws_FnExactStoreCell.j1 k x2 x3 x11 true x174000 x175000 x175001 x186000 x197000) else ((laws_eqArena.f k x197000 x186000).bind fun t204 => (if t204 = true then (laws_FnExactStoreCell.j1 k x2 x3 x11 (x14 != x11) x174000 x175000 x175001 x186000 x197000) else (laws_FnExactStoreCell.j1 k x2 x3 x11 true x174000 x175000 x175001 x186000 x197000))))) else (some false))))
def laws_FnExactStoreCell.j1 : Nat → Int → Int → Bool → Bool → List Int → Int → Int → List Int → List Int → Option (Bool)
  | 0, _, _, _, _, _, _, _, _, _ => none
  | k + 1, x2, x3, x11, x75, x174000, x175000, x175001, x186000, x197000 => if x75 = true then (some false) else ((laws_markArena.f k x197000 1).bind fun bt205 => ((laws_heldArena.f k bt205.2 1).bind fun t207 => (if t207 < 0 then (some false) else (if t207 = bt205.1 then ((laws_toArena.f k x174000).bind fun t208 => ((laws_toRegion.f x175000 x175001).bind fun bt211 => ((impl_StoreCell.f t208 bt211.1 bt211.2 x2 x3).bind fun bt213 => ((laws_eqArena.f k bt213.1 x186000).bind fun t218 => (if t218 = true then (laws_FnExactStoreCell.j2 k bt205.1 (bt213.2 != x11) bt205.2) else (laws_FnExactStoreCell.j2 k bt205.1 true bt205.2)))))) else (some false)))))
def laws_FnExactStoreCell.j2 : Nat → Int → Bool → List Int → Option (Bool)
  | 0, _, _, _ => none
  | k + 1, x16, x105, x197000 => if x105 = true then (some false) else ((laws_heldArena.f k x197000 1).bind fun t219 => (if t219 < 0 then (some false) else (if t219 = x16 then (some true) else (some false))))
end
def laws_FnExactStoreCell.f (k : Nat) (l0_0 : List Int) (a1_0 : Int) (a1_1 : Int) (a2 : Int) (a3 : Int) : Option (Bool) := (laws_szArena.f l0_0 1048576).bind fun t175 => (if t175 < 0 then (some true) else ((laws_toArena.f k l0_0).bind fun t176 => ((laws_toRegion.f a1_0 a1_1).bind fun bt179 => ((spec_StoreCell.f t176 bt179.1 bt179.2 a2 a3).bind fun bt181 => ((laws_toArena.f k l0_0).bind fun t186 => ((laws_toRegion.f a1_0 a1_1).bind fun bt190 => ((impl_StoreCell.f t186 bt190.1 bt190.2 a2 a3).bind fun bt192 => ((laws_eqArena.f k bt192.1 bt181.1).bind fun t197 => (if t197 = true then (laws_FnExactStoreCell.j0 k a2 a3 bt181.2 bt192.2 (bt192.2 != bt181.2) l0_0 a1_0 a1_1 bt181.1 t186 bt192.1) else (laws_FnExactStoreCell.j0 k a2 a3 bt181.2 bt192.2 true l0_0 a1_0 a1_1 bt181.1 t186 bt192.1))))))))))
theorem laws_FnExactStoreCell.mono_l : ∀ k, (∀ y0 y1 y2 y3 y4 y5 y6 y7 y8 y9 y10, LeO (laws_FnExactStoreCell.j0 k y0 y1 y2 y3 y4 y5 y6 y7 y8 y9 y10) (laws_FnExactStoreCell.j0 (k + 1) y0 y1 y2 y3 y4 y5 y6 y7 y8 y9 y10)) ∧ (∀ y0 y1 y2 y3 y4 y5 y6 y7 y8, LeO (laws_FnExactStoreCell.j1 k y0 y1 y2 y3 y4 y5 y6 y7 y8) (laws_FnExactStoreCell.j1 (k + 1) y0 y1 y2 y3 y4 y5 y6 y7 y8)) ∧ (∀ y0 y1 y2, LeO (laws_FnExactStoreCell.j2 k y0 y1 y2) (laws_FnExactStoreCell.j2 (k + 1) y0 y1 y2))
  | 0 => ⟨fun _ _ _ _ _ _ _ _ _ _ _ r h => by simp [laws_FnExactStoreCell.j0] at h, fun _ _ _ _ _ _ _ _ _ r h => by simp [laws_FnExactStoreCell.j1] at h, fun _ _ _ r h => by simp [laws_FnExactStoreCell.j2] at h⟩
  | k + 1 => by
    obtain ⟨ih0, ih1, ih2⟩ := laws_FnExactStoreCell.mono_l k
    refine ⟨?_, ?_, ?_⟩
    · intro y0 y1 y2 y3 y4 y5 y6 y7 y8 y9 y10
      unfold laws_FnExactStoreCell.j0
      repeat' first
      | (with_reducible exact ih0 _ _ _ _ _ _ _ _ _ _ _)
      | (with_reducible exact ih1 _ _ _ _ _ _ _ _ _)
      | (with_reducible exact ih2 _ _ _)
      | (with_reducible exact laws_eqArena.mono _ _ _)
      | (with_reducible exact laws_heldArena.mono _ _ _)
      | (with_reducible exact laws_markArena.mono _ _ _)
      | (with_reducible exact laws_toArena.mono _ _)
      | (with_reducible exact LeO.refl _)
      | (with_reducible exact LeO.none _)
      | (with_reducible refine LeO.ite ?_ ?_)
      | (with_reducible refine LeO.bind ?_ (fun _ => ?_))
      | exact ih0 _ _ _ _ _ _ _ _ _ _ _
      | exact ih1 _ _ _ _ _ _ _ _ _
      | exact ih2 _ _ _
      | exact laws_eqArena.mono _ _ _
      | exact laws_heldArena.mono _ _ _
      | exact laws_markArena.mono _ _ _
      | exact laws_toArena.mono _ _
      | exact LeO.none _
      | refine LeO.ite ?_ ?_
      | refine LeO.bind ?_ (fun _ => ?_)
    · intro y0 y1 y2 y3 y4 y5 y6 y7 y8
      unfold laws_FnExactStoreCell.j1
      repeat' first
      | (with_reducible exact ih0 _ _ _ _ _ _ _ _ _ _ _)
      | (with_reducible exact ih1 _ _ _ _ _ _ _ _ _)
      | (with_reducible exact ih2 _ _ _)
      | (with_reducible exact laws_eqArena.mono _ _ _)
      | (with_reducible exact laws_heldArena.mono _ _ _)
      | (with_reducible exact laws_markArena.mono _ _ _)
      | (with_reducible exact laws_toArena.mono _ _)
      | (with_reducible exact LeO.refl _)
      | (with_reducible exact LeO.none _)
      | (with_reducible refine LeO.ite ?_ ?_)
      | (with_reducible refine LeO.bind ?_ (fun _ => ?_))
      | exact ih0 _ _ _ _ _ _ _ _ _ _ _
      | exact ih1 _ _ _ _ _ _ _ _ _
      | exact ih2 _ _ _
      | exact laws_eqArena.mono _ _ _
      | exact laws_heldArena.mono _ _ _
      | exact laws_markArena.mono _ _ _
      | exact laws_toArena.mono _ _
      | exact LeO.none _
      | refine LeO.ite ?_ ?_
      | refine LeO.bind ?_ (fun _ => ?_)
    · intro y0 y1 y2
      unfold laws_FnExactStoreCell.j2
      repeat' first
      | (with_reducible exact ih0 _ _ _ _ _ _ _ _ _ _ _)
      | (with_reducible exact ih1 _ _ _ _ _ _ _ _ _)
      | (with_reducible exact ih2 _ _ _)
      | (with_reducible exact laws_eqArena.mono _ _ _)
      | (with_reducible exact laws_heldArena.mono _ _ _)
      | (with_reducible exact laws_markArena.mono _ _ _)
      | (with_reducible exact laws_toArena.mono _ _)
      | (with_reducible exact LeO.refl _)
      | (with_reducible exact LeO.none _)
      | (with_reducible refine LeO.ite ?_ ?_)
      | (with_reducible refine LeO.bind ?_ (fun _ => ?_))
      | exact ih0 _ _ _ _ _ _ _ _ _ _ _
      | exact ih1 _ _ _ _ _ _ _ _ _
      | exact ih2 _ _ _
      | exact laws_eqArena.mono _ _ _
      | exact laws_heldArena.mono _ _ _
      | exact laws_markArena.mono _ _ _
      | exact laws_toArena.mono _ _
      | exact LeO.none _
      | refine LeO.ite ?_ ?_
      | refine LeO.bind ?_ (fun _ => ?_)
theorem laws_FnExactStoreCell.mono : ∀ a0 a1 a2 a3 a4 k, LeO (laws_FnExactStoreCell.f k a0 a1 a2 a3 a4) (laws_FnExactStoreCell.f (k + 1) a0 a1 a2 a3 a4) := by
  intro a0 a1 a2 a3 a4 k
  obtain ⟨ih0, ih1, ih2⟩ := laws_FnExactStoreCell.mono_l k
  unfold laws_FnExactStoreCell.f
  repeat' first
      | (with_reducible exact ih0 _ _ _ _ _ _ _ _ _ _ _)
      | (with_reducible exact ih1 _ _ _ _ _ _ _ _ _)
      | (with_reducible exact ih2 _ _ _)
      | (with_reducible exact laws_eqArena.mono _ _ _)
      | (with_reducible exact laws_heldArena.mono _ _ _)
      | (with_reducible exact laws_markArena.mono _ _ _)
      | (with_reducible exact laws_toArena.mono _ _)
      | (with_reducible exact LeO.refl _)
      | (with_reducible exact LeO.none _)
      | (with_reducible refine LeO.ite ?_ ?_)
      | (with_reducible refine LeO.bind ?_ (fun _ => ?_))
      | exact ih0 _ _ _ _ _ _ _ _ _ _ _
      | exact ih1 _ _ _ _ _ _ _ _ _
      | exact ih2 _ _ _
      | exact laws_eqArena.mono _ _ _
      | exact laws_heldArena.mono _ _ _
      | exact laws_markArena.mono _ _ _
      | exact laws_toArena.mono _ _
      | exact LeO.none _
      | refine LeO.ite ?_ ?_
      | refine LeO.bind ?_ (fun _ => ?_)
def laws_FnExactStoreCell.T5 : Bool × List (List Nat × List Nat) := (true, [([], []), ([0], [0]), ([], []), ([2, 1], [2]), ([], []), ([], []), ([1, 3, 4, 5, 3], [1, 3, 4, 5]), ([6], [6]), ([7], [7]), ([7], [7]), ([], []), ([10, 8, 6, 0, 1, 2, 3, 4, 5, 6, 7, 8, 10], [8, 10]), ([9, 11, 0, 1, 2, 3, 4, 5, 6, 7, 8, 9, 10, 11], [9])])
def laws_FnExactStoreCell.B5 : List Nat := [0, 1, 0, 7, 0, 0, 63, 127, 255, 255, 0, 1535, 4095]
theorem laws_FnExactStoreCell.tab5 : rtab .any (opsOf Try.f5 5) = laws_FnExactStoreCell.T5 := by kernel_rfl
theorem laws_FnExactStoreCell.bits5 : waitsOk laws_FnExactStoreCell.T5.2 laws_FnExactStoreCell.B5 = true := by kernel_rfl
def laws_FnExactStoreCell.T7 : Bool × List (List Nat × List Nat) := (true, [([], []), ([], []), ([1], [1]), ([], []), ([], []), ([0, 2, 3, 4, 2], [0, 2, 3, 4]), ([5], [5]), ([6], [6]), ([6], [6]), ([], []), ([9, 7, 5, 0, 1, 2, 3, 4, 5, 6, 7, 9], [7, 9]), ([8, 10, 0, 1, 2, 3, 4, 5, 6, 7, 8, 9, 10], [8])])
def laws_FnExactStoreCell.B7 : List Nat := [0, 0, 2, 0, 0, 31, 63, 127, 127, 0, 767, 2047]
theorem laws_FnExactStoreCell.tab7 : rtab .any (opsOf Try.f5 7) = laws_FnExactStoreCell.T7 := by kernel_rfl
theorem laws_FnExactStoreCell.bits7 : waitsOk laws_FnExactStoreCell.T7.2 laws_FnExactStoreCell.B7 = true := by kernel_rfl
def laws_FnExactStoreCell.T24 : Bool × List (List Nat × List Nat) := (true, [([], []), ([0], [0]), ([], []), ([2, 1], [2]), ([], []), ([], []), ([1, 3, 4, 5, 3], [1, 3, 4, 5]), ([6], [6]), ([7], [7]), ([7], [7]), ([], []), ([10, 8, 6, 0, 1, 2, 3, 4, 5, 6, 7, 8, 10], [8, 10]), ([9, 11, 0, 1, 2, 3, 4, 5, 6, 7, 8, 9, 10, 11], [9])])
def laws_FnExactStoreCell.B24 : List Nat := [0, 1, 0, 7, 0, 0, 63, 127, 255, 255, 0, 1535, 4095]
theorem laws_FnExactStoreCell.tab24 : rtab .any (opsOf Try.f5 24) = laws_FnExactStoreCell.T24 := by kernel_rfl
theorem laws_FnExactStoreCell.bits24 : waitsOk laws_FnExactStoreCell.T24.2 laws_FnExactStoreCell.B24 = true := by kernel_rfl
abbrev z_bN := @pw_below_drewN
abbrev z_bA := @below_alloc
abbrev z_bD := @below_drew1
abbrev z_bS := @below_set
abbrev z_kN := @blk_drewN
abbrev z_kD := @blk_drew
abbrev z_kA := @blk_alloc
abbrev z_rA := @Kd.R_alloc
abbrev z_rN := @Kd.R_drewN
abbrev z_rD := @Kd.R_drew
abbrev z_kB := @blk_below
abbrev z_kK := @blk_kept
abbrev z_aM := @Aside0.mk
abbrev z_kC := @blk_cell
abbrev z_kL := @blk_lt
abbrev z_rB := @Kd.R_below
abbrev z_bT := @below_step
abbrev z_bZ := @below_size
abbrev z_rM := @Kd.R_mono
abbrev z_rK := @Kd.R_keptB
abbrev z_rE := @Kd.R_ne
abbrev z_rL := @Kd.R_lt
abbrev z_lA := @List.setIfInBounds_toArray
abbrev z_lZ := @List.set_cons_zero
abbrev z_lS := @List.set_cons_succ
set_option maxHeartbeats 8000000 in
set_option maxRecDepth 100000 in
theorem laws_FnExactStoreCell.calls (k : Nat) (A0_0 : Option Addr) (c0_0 : Nat) (l0_0 : List Int) (a1_0 : Int) (a1_1 : Int) (a2 : Int) (a3 : Int) (r : Bool) (hrt : Aside0 (r = true)) (w : World) (hr0_0 : Kd.C (Kd.int .i64) w A0_0 l0_0.length l0_0) (hc0_0 : l0_0.length ≤ c0_0) (h : laws_FnExactStoreCell.f k l0_0 a1_0 a1_1 a2 a3 = some r) :
    Calls Try.prog 5 #[.agg #[.slice A0_0 l0_0.length c0_0], .agg #[.int .i64 a1_0, .int .i64 a1_1], .int .i64 a2, .int .i64 a3] w fun e w' => e = .returned (.bool r) ∧ Below w.heap.size w w' := by
 have hu41 := Try.underlying41
 have hu42 := Try.underlying42
 have hu29 := Try.underlying29
 have HR0_0 := z_aM hr0_0
 have HC0_0 := z_aM hc0_0
 clear hr0_0 hc0_0
 have HB := z_aM (Below.refl w.heap.size w)
 have H : ((laws_szArena.f l0_0 1048576).bind fun t175 => (if t175 < 0 then (some true) else ((laws_toArena.f k l0_0).bind fun t176 => ((laws_toRegion.f a1_0 a1_1).bind fun bt179 => ((spec_StoreCell.f t176 bt179.1 bt179.2 a2 a3).bind fun bt181 => ((laws_toArena.f k l0_0).bind fun t186 => ((laws_toRegion.f a1_0 a1_1).bind fun bt190 => ((impl_StoreCell.f t186 bt190.1 bt190.2 a2 a3).bind fun bt192 => ((laws_eqArena.f k bt192.1 bt181.1).bind fun t197 => (if t197 = true then (laws_FnExactStoreCell.j0 k a2 a3 bt181.2 bt192.2 (bt192.2 != bt181.2) l0_0 a1_0 a1_1 bt181.1 t186 bt192.1) else (laws_FnExactStoreCell.j0 k a2 a3 bt181.2 bt192.2 true l0_0 a1_0 a1_1 bt181.1 t186 bt192.1))))))))))) = some r := h
 clear h
 replace H := Option.bind_eq_some_iff.mp H
 obtain ⟨t175, A50, H⟩ := H
 replace H : (if t175 < 0 then (some true) else ((laws_toArena.f k l0_0).bind fun t176 => ((laws_toRegion.f a1_0 a1_1).bind fun bt179 => ((spec_StoreCell.f t176 bt179.1 bt179.2 a2 a3).bind fun bt181 => ((laws_toArena.f k l0_0).bind fun t186 => ((laws_toRegion.f a1_0 a1_1).bind fun bt190 => ((impl_StoreCell.f t186 bt190.1 bt190.2 a2 a3).bind fun bt192 => ((laws_eqArena.f k bt192.1 bt181.1).bind fun t197 => (if t197 = true then (laws_FnExactStoreCell.j0 k a2 a3 bt181.2 bt192.2 (bt192.2 != bt181.2) l0_0 a1_0 a1_1 bt181.1 t186 bt192.1) else (laws_FnExactStoreCell.j0 k a2 a3 bt181.2 bt192.2 true l0_0 a1_0 a1_1 bt181.1 t186 bt192.1)))))))))) = some r := H
 have A5 := z_aM A50
 clear A50
 by_cases c6 : t175 < 0
 ·rw [if_pos c6] at H
  have c6b0 : decide (t175 < 0) = true := decide_eq_true c6
  clear c6
  obtain rfl := Option.some.inj H
  go_enter Try.func5, Try.ntmps5
  go_wp2_with (first | ((with_reducible refine gate_dst (N := 4) rfl ?_); refine box_event ?hg (N := 4) ?hd (cs := #[.slice A0_0 l0_0.length c0_0]) (t := 41) ?hr ?_; (case hd => rfl); (case hg => rfl); (case hr => first | (go_simp; done) | (go_simp; rfl)); intro gb173 hg w7 hbox hb; have n0_ := z_aM (z_bT (by repeat (first | (with_reducible first | exact HB.out | apply z_bA | apply z_bN | apply z_bD) | exact HB.out)) hb); have n1_ := z_aM (hbox); have n2_ := z_aM ((by rw [hg]; exact (z_bZ (by repeat (first | (with_reducible first | exact HB.out | apply z_bA | apply z_bN | apply z_bD) | exact HB.out))) : w.heap.size ≤ gb173)); have n3_ := z_aM ((by rw [hg]; exact (z_bZ (by repeat (first | (with_reducible first | exact HB.out | apply z_bA | apply z_bN | apply z_bD) | exact HB.out))) : w.heap.size ≤ gb173)); clear HB; have HB := n0_; have BK173 := n1_; have GW173 := n2_; have GE173 := n3_; clear n0_ n1_ n2_ n3_; clear hb hbox hg) | ((with_reducible refine gate_dst (N := 5) rfl ?_); refine box_event ?hg (N := 5) ?hd (cs := #[.int .i64 a1_0, .int .i64 a1_1]) (t := 42) ?hr ?_; (case hd => rfl); (case hg => rfl); (case hr => first | (go_simp; done) | (go_simp; rfl)); intro gb174 hg w8 hbox hb; have n0_ := z_aM (z_kB (by (with_reducible repeat (first | apply z_kN | apply z_kD | apply z_kA)); exact BK173.out) hb); have n1_ := z_aM (z_bT (by repeat (first | (with_reducible first | exact HB.out | apply z_bA | apply z_bN | apply z_bD | refine z_bS ?_ GE173.out) | exact HB.out)) hb); have n2_ := z_aM (hbox); have n3_ := z_aM ((by rw [hg]; exact (z_bZ (by repeat (first | (with_reducible first | exact HB.out | apply z_bA | apply z_bN | apply z_bD | refine z_bS ?_ GE173.out) | exact HB.out))) : w.heap.size ≤ gb174)); have n4_ := z_aM ((by rw [hg]; exact (z_bZ (by repeat (first | (with_reducible first | exact HB.out | apply z_bA | apply z_bN | apply z_bD | refine z_bS ?_ GE173.out) | exact HB.out))) : w.heap.size ≤ gb174)); have n5_ := z_aM ((by rw [hg]; exact Nat.ne_of_lt (z_kL (by (with_reducible repeat (first | apply z_kN | apply z_kD | apply z_kA)); exact BK173.out)) : gb173 ≠ gb174)); have n6_ := z_aM ((by rw [hg]; exact Nat.ne_of_gt (z_kL (by (with_reducible repeat (first | apply z_kN | apply z_kD | apply z_kA)); exact BK173.out)) : gb174 ≠ gb173)); clear BK173; clear HB; have BK173 := n0_; have HB := n1_; have BK174 := n2_; have GW174 := n3_; have GE174 := n4_; have NB173_174 := n5_; have NB174_173 := n6_; clear n0_ n1_ n2_ n3_ n4_ n5_ n6_; clear hb hbox hg; have hnb9 := NB173_174.out; have hnc9 := NB174_173.out; have hcz10_0 : w8.cell? ⟨gb173, 0, none⟩ = some (.slice A0_0 l0_0.length c0_0) := (z_kC BK173.out 0).trans rfl; have hfz10_0 := blk_frozen BK173.out 0) | ((with_reducible refine gate_callee (f := 24) rfl ?_); refine goesL_ (some 22) rfl rfl Try.func24 (by kernel_rfl) rfl #[.agg #[.slice A0_0 l0_0.length c0_0], .int .i64 1048576] rfl (by (try simp only [List.map_toArray, List.map_cons, List.map_nil]); first | done | rfl | (simp only [List.length_drop, List.length_take]; rfl)) ?_; (with_reducible refine (laws_szArena.calls _ _ l0_0 1048576 t175 _ ?side1 ?side2 A5.out).mono ?_); (case side1 => repeat (first | exact (Kd.C_below HR0_0.out HB.out) | (with_reducible refine Kd.C_alloc ?_ _) | (with_reducible refine Kd.C_drewN ?_ _) | (with_reducible refine Kd.C_drew ?_))); (case side2 => exact HC0_0.out); rintro e w11 ⟨rfl, hb⟩; refine ⟨_, rfl, ?_⟩; have n0_ := z_aM (z_kB (by (with_reducible repeat (first | apply z_kN | apply z_kD | apply z_kA)); exact BK173.out) hb); have n1_ := z_aM (z_kB (by (with_reducible repeat (first | apply z_kN | apply z_kD | apply z_kA)); exact BK174.out) hb); have n2_ := z_aM (z_bT (by repeat (first | (with_reducible first | exact HB.out | apply z_bA | apply z_bN | apply z_bD | refine z_bS ?_ GE173.out | refine z_bS ?_ GE174.out) | exact HB.out)) hb); clear BK173; clear BK174; clear HB; have BK173 := n0_; have BK174 := n1_; have HB := n2_; clear n0_ n1_ n2_; (try clear hb); (try clear hb2); (try clear hk); (try clear hi)))
  go_ret
  exact ⟨by first | rfl | (simp [errW_none, errW_some] <;> rfl) | (simp [*, errW_none, errW_some] <;> rfl), by repeat (first | (with_reducible first | exact HB.out | apply z_bA | apply z_bN | apply z_bD | refine z_bS ?_ GE173.out | refine z_bS ?_ GE174.out) | exact HB.out)⟩
 ·rw [if_neg c6] at H
  have c6b0 : decide (t175 < 0) = false := decide_eq_false c6
  clear c6
  replace H := Option.bind_eq_some_iff.mp H
  obtain ⟨t176, A120, H⟩ := H
  replace H : ((laws_toRegion.f a1_0 a1_1).bind fun bt179 => ((spec_StoreCell.f t176 bt179.1 bt179.2 a2 a3).bind fun bt181 => ((laws_toArena.f k l0_0).bind fun t186 => ((laws_toRegion.f a1_0 a1_1).bind fun bt190 => ((impl_StoreCell.f t186 bt190.1 bt190.2 a2 a3).bind fun bt192 => ((laws_eqArena.f k bt192.1 bt181.1).bind fun t197 => (if t197 = true then (laws_FnExactStoreCell.j0 k a2 a3 bt181.2 bt192.2 (bt192.2 != bt181.2) l0_0 a1_0 a1_1 bt181.1 t186 bt192.1) else (laws_FnExactStoreCell.j0 k a2 a3 bt181.2 bt192.2 true l0_0 a1_0 a1_1 bt181.1 t186 bt192.1)))))))) = some r := H
  have A12 := z_aM A120
  clear A120
  replace H := Option.bind_eq_some_iff.mp H
  obtain ⟨⟨t179, t180⟩, A130, H⟩ := H
  replace H : ((spec_StoreCell.f t176 t179 t180 a2 a3).bind fun bt181 => ((laws_toArena.f k l0_0).bind fun t186 => ((laws_toRegion.f a1_0 a1_1).bind fun bt190 => ((impl_StoreCell.f t186 bt190.1 bt190.2 a2 a3).bind fun bt192 => ((laws_eqArena.f k bt192.1 bt181.1).bind fun t197 => (if t197 = true then (laws_FnExactStoreCell.j0 k a2 a3 bt181.2 bt192.2 (bt192.2 != bt181.2) l0_0 a1_0 a1_1 bt181.1 t186 bt192.1) else (laws_FnExactStoreCell.j0 k a2 a3 bt181.2 bt192.2 true l0_0 a1_0 a1_1 bt181.1 t186 bt192.1))))))) = some r := H
  have A13 := z_aM A130
  clear A130
  replace H := Option.bind_eq_some_iff.mp H
  obtain ⟨⟨t181, t184⟩, A140, H⟩ := H
  replace H : ((laws_toArena.f k l0_0).bind fun t186 => ((laws_toRegion.f a1_0 a1_1).bind fun bt190 => ((impl_StoreCell.f t186 bt190.1 bt190.2 a2 a3).bind fun bt192 => ((laws_eqArena.f k bt192.1 t181).bind fun t197 => (if t197 = true then (laws_FnExactStoreCell.j0 k a2 a3 t184 bt192.2 (bt192.2 != t184) l0_0 a1_0 a1_1 t181 t186 bt192.1) else (laws_FnExactStoreCell.j0 k a2 a3 t184 bt192.2 true l0_0 a1_0 a1_1 t181 t186 bt192.1)))))) = some r := H
  have A14 := z_aM A140
  clear A140
  replace H := Option.bind_eq_some_iff.mp H
  obtain ⟨t186, A150, H⟩ := H
  replace H : ((laws_toRegion.f a1_0 a1_1).bind fun bt190 => ((impl_StoreCell.f t186 bt190.1 bt190.2 a2 a3).bind fun bt192 => ((laws_eqArena.f k bt192.1 t181).bind fun t197 => (if t197 = true then (laws_FnExactStoreCell.j0 k a2 a3 t184 bt192.2 (bt192.2 != t184) l0_0 a1_0 a1_1 t181 t186 bt192.1) else (laws_FnExactStoreCell.j0 k a2 a3 t184 bt192.2 true l0_0 a1_0 a1_1 t181 t186 bt192.1))))) = some r := H
  have A15 := z_aM A150
  clear A150
  replace H := Option.bind_eq_some_iff.mp H
  obtain ⟨⟨t190, t191⟩, A160, H⟩ := H
  replace H : ((impl_StoreCell.f t186 t190 t191 a2 a3).bind fun bt192 => ((laws_eqArena.f k bt192.1 t181).bind fun t197 => (if t197 = true then (laws_FnExactStoreCell.j0 k a2 a3 t184 bt192.2 (bt192.2 != t184) l0_0 a1_0 a1_1 t181 t186 bt192.1) else (laws_FnExactStoreCell.j0 k a2 a3 t184 bt192.2 true l0_0 a1_0 a1_1 t181 t186 bt192.1)))) = some r := H
  have A16 := z_aM A160
  clear A160
  replace H := Option.bind_eq_some_iff.mp H
  obtain ⟨⟨t192, t195⟩, A170, H⟩ := H
  replace H : ((laws_eqArena.f k t192 t181).bind fun t197 => (if t197 = true then (laws_FnExactStoreCell.j0 k a2 a3 t184 t195 (t195 != t184) l0_0 a1_0 a1_1 t181 t186 t192) else (laws_FnExactStoreCell.j0 k a2 a3 t184 t195 true l0_0 a1_0 a1_1 t181 t186 t192))) = some r := H
  have A17 := z_aM A170
  clear A170
  have HC18 := z_aM H
  clear H
  go_enter Try.func5, Try.ntmps5
  try go_wp2_with (first | ((with_reducible refine gate_dst (N := 4) rfl ?_); refine box_event ?hg (N := 4) ?hd (cs := #[.slice A0_0 l0_0.length c0_0]) (t := 41) ?hr ?_; (case hd => rfl); (case hg => rfl); (case hr => first | (go_simp; done) | (go_simp; rfl)); intro gb173 hg w19 hbox hb; have n0_ := z_aM (z_bT (by repeat (first | (with_reducible first | exact HB.out | apply z_bA | apply z_bN | apply z_bD) | exact HB.out)) hb); have n1_ := z_aM (hbox); have n2_ := z_aM ((by rw [hg]; exact (z_bZ (by repeat (first | (with_reducible first | exact HB.out | apply z_bA | apply z_bN | apply z_bD) | exact HB.out))) : w.heap.size ≤ gb173)); have n3_ := z_aM ((by rw [hg]; exact (z_bZ (by repeat (first | (with_reducible first | exact HB.out | apply z_bA | apply z_bN | apply z_bD) | exact HB.out))) : w.heap.size ≤ gb173)); clear HB; have HB := n0_; have BK173 := n1_; have GW173 := n2_; have GE173 := n3_; clear n0_ n1_ n2_ n3_; clear hb hbox hg) | ((with_reducible refine gate_dst (N := 5) rfl ?_); refine box_event ?hg (N := 5) ?hd (cs := #[.int .i64 a1_0, .int .i64 a1_1]) (t := 42) ?hr ?_; (case hd => rfl); (case hg => rfl); (case hr => first | (go_simp; done) | (go_simp; rfl)); intro gb174 hg w20 hbox hb; have n0_ := z_aM (z_kB (by (with_reducible repeat (first | apply z_kN | apply z_kD | apply z_kA)); exact BK173.out) hb); have n1_ := z_aM (z_bT (by repeat (first | (with_reducible first | exact HB.out | apply z_bA | apply z_bN | apply z_bD | refine z_bS ?_ GE173.out) | exact HB.out)) hb); have n2_ := z_aM (hbox); have n3_ := z_aM ((by rw [hg]; exact (z_bZ (by repeat (first | (with_reducible first | exact HB.out | apply z_bA | apply z_bN | apply z_bD | refine z_bS ?_ GE173.out) | exact HB.out))) : w.heap.size ≤ gb174)); have n4_ := z_aM ((by rw [hg]; exact (z_bZ (by repeat (first | (with_reducible first | exact HB.out | apply z_bA | apply z_bN | apply z_bD | refine z_bS ?_ GE173.out) | exact HB.out))) : w.heap.size ≤ gb174)); have n5_ := z_aM ((by rw [hg]; exact Nat.ne_of_lt (z_kL (by (with_reducible repeat (first | apply z_kN | apply z_kD | apply z_kA)); exact BK173.out)) : gb173 ≠ gb174)); have n6_ := z_aM ((by rw [hg]; exact Nat.ne_of_gt (z_kL (by (with_reducible repeat (first | apply z_kN | apply z_kD | apply z_kA)); exact BK173.out)) : gb174 ≠ gb173)); clear BK173; clear HB; have BK173 := n0_; have HB := n1_; have BK174 := n2_; have GW174 := n3_; have GE174 := n4_; have NB173_174 := n5_; have NB174_173 := n6_; clear n0_ n1_ n2_ n3_ n4_ n5_ n6_; clear hb hbox hg; have hnb21 := NB173_174.out; have hnc21 := NB174_173.out; have hcz22_0 : w20.cell? ⟨gb173, 0, none⟩ = some (.slice A0_0 l0_0.length c0_0) := (z_kC BK173.out 0).trans rfl; have hfz22_0 := blk_frozen BK173.out 0) | ((with_reducible refine gate_callee (f := 24) rfl ?_); refine goesL_ (some 22) rfl rfl Try.func24 (by kernel_rfl) rfl #[.agg #[.slice A0_0 l0_0.length c0_0], .int .i64 1048576] rfl (by (try simp only [List.map_toArray, List.map_cons, List.map_nil]); first | done | rfl | (simp only [List.length_drop, List.length_take]; rfl)) ?_; (with_reducible refine (laws_szArena.calls _ _ l0_0 1048576 t175 _ ?side1 ?side2 A5.out).mono ?_); (case side1 => repeat (first | exact (Kd.C_below HR0_0.out HB.out) | (with_reducible refine Kd.C_alloc ?_ _) | (with_reducible refine Kd.C_drewN ?_ _) | (with_reducible refine Kd.C_drew ?_))); (case side2 => exact HC0_0.out); rintro e w23 ⟨rfl, hb⟩; refine ⟨_, rfl, ?_⟩; have n0_ := z_aM (z_kB (by (with_reducible repeat (first | apply z_kN | apply z_kD | apply z_kA)); exact BK173.out) hb); have n1_ := z_aM (z_kB (by (with_reducible repeat (first | apply z_kN | apply z_kD | apply z_kA)); exact BK174.out) hb); have n2_ := z_aM (z_bT (by repeat (first | (with_reducible first | exact HB.out | apply z_bA | apply z_bN | apply z_bD | refine z_bS ?_ GE173.out | refine z_bS ?_ GE174.out) | exact HB.out)) hb); clear BK173; clear BK174; clear HB; have BK173 := n0_; have BK174 := n1_; have HB := n2_; clear n0_ n1_ n2_; (try clear hb); (try clear hb2); (try clear hk); (try clear hi)))
  have n0_ := z_aM (z_kD BK173.out)
  have n1_ := z_aM (z_kD BK174.out)
  have n2_ := z_aM (z_bD HB.out)
  clear BK173
  clear BK174
  clear HB
  have BK173 := n0_
  have BK174 := n1_
  have HB := n2_
  clear n0_ n1_ n2_
  refine start_ (n := 13) (S := fun w' => w'.cell? ⟨gb173, 0, none⟩ = some (.slice A0_0 l0_0.length c0_0) ∧ w'.cell? ⟨gb174, 0, none⟩ = some (.int .i64 a1_0) ∧ w'.cell? ⟨gb174, 1, none⟩ = some (.int .i64 a1_1)) (ds := []) #[false, false, false, false, false, false, false, false, false, false, false, false, false] (by kernel_rfl) rfl rfl ⟨(z_kC BK173.out 0).trans rfl, (z_kC BK174.out 0).trans rfl, (z_kC BK174.out 1).trans rfl⟩ (fun hHeld => ?_); refine with_tabW laws_FnExactStoreCell.tab5 laws_FnExactStoreCell.bits5 (fun HT_ HW_ => ?_)
  generalize w23.drew = w24 at BK173 BK174 HB hHeld ⊢
  refine pure_ (i := 4) (N := some 30) (v := ?_) (a' := ?_) #[false, false, false, false, true, false, false, false, false, false, false, false, false] rfl rfl (any_of HT_.out (by kernel_rfl)) (fun _ _ _ h => h) (Or.inl ⟨by rfl, ?_⟩) ?_ ?_
  rotate_left
  ·intro w'
   go_simp
   with_reducible rfl
  rotate_left
  ·simp only [Act.put, z_lA, z_lZ, z_lS, i64_w, i32_w]
   rfl
  refine pure_ (i := 5) (N := some 31) (v := ?_) (a' := ?_) #[false, false, false, false, true, true, false, false, false, false, false, false, false] rfl rfl (any_of HT_.out (by kernel_rfl)) (fun _ _ _ h => h) (Or.inl ⟨by rfl, ?_⟩) ?_ ?_
  rotate_left
  ·intro w'
   go_simp
   with_reducible rfl
  rotate_left
  ·simp only [Act.put, z_lA, z_lZ, z_lS, i64_w, i32_w]
   rfl
  refine take_ (i := 0) (N := some 26) (v := ?_) (a' := ?_) #[true, false, false, false, true, true, false, false, false, false, false, false, false] rfl rfl (take_ofW HT_.out HW_.out (by kernel_rfl)) (fun _ _ _ h => h) (Or.inl ⟨by rfl, ?_⟩) hHeld ?_ ?_
  rotate_left
  ·rintro w' ⟨s0, s1, s2⟩
   go_simp
   with_reducible rfl
  rotate_left
  ·simp only [Act.put, z_lA, z_lZ, z_lS, i64_w, i32_w]
   rfl
  refine take_ (i := 2) (N := some 28) (v := ?_) (a' := ?_) #[true, false, true, false, true, true, false, false, false, false, false, false, false] rfl rfl (take_ofW HT_.out HW_.out (by kernel_rfl)) (fun _ _ _ h => h) (Or.inl ⟨by rfl, ?_⟩) hHeld ?_ ?_
  rotate_left
  ·rintro w' ⟨s0, s1, s2⟩
   go_simp
   with_reducible rfl
  rotate_left
  ·simp only [Act.put, z_lA, z_lZ, z_lS, i64_w, i32_w]
   rfl
  refine join_ (σ := Value × Value × Nat) 2 #[true, true, true, true, true, true, true, true, true, true, true, false, false] (fun s_ => [(27, .agg #[s_.1]), (29, .agg #[.int .i64 t179, .int .i64 t180]), (32, .tuple #[.agg #[s_.2.1], .bool t184]), (10, .pointer (some ⟨s_.2.2, 0, none⟩)), (25, .tuple #[.agg #[s_.2.1], .bool t184]), (33, .agg #[s_.2.1]), (34, .bool t184)]) (fun s_ w' => (w'.cell? ⟨gb173, 0, none⟩ = some (.slice A0_0 l0_0.length c0_0) ∧ w'.cell? ⟨gb174, 0, none⟩ = some (.int .i64 a1_0) ∧ w'.cell? ⟨gb174, 1, none⟩ = some (.int .i64 a1_1)) ∧ (Kd.R (Kd.int .i64) 3 w' w.heap.size (fun k_ => some k_ ≠ (s_.2.1 : Value).ownBlock) s_.1 t176) ∧ (Kd.R (Kd.int .i64) 3 w' w.heap.size (fun k_ => some k_ ≠ (s_.1 : Value).ownBlock) s_.2.1 t181) ∧ (w'.heap[gb173]? = some (.cells #[.slice A0_0 l0_0.length c0_0] 41 (0, 0))) ∧ (w'.heap[gb174]? = some (.cells #[.int .i64 a1_0, .int .i64 a1_1] 42 (0, 0))) ∧ (w'.heap[s_.2.2]? = some (.cells #[.slice none 0 0] 29 (0, 0))) ∧ (w.heap.size ≤ s_.2.2) ∧ (w.heap.size ≤ s_.2.2) ∧ (gb173 ≠ s_.2.2) ∧ (s_.2.2 ≠ gb173) ∧ (gb174 ≠ s_.2.2) ∧ (s_.2.2 ≠ gb174) ∧ (Below w.heap.size w w')) ?_ ?_
  rotate_left
  ·intro hCont
   refine two_ (i := 1) (j := 10) (Ni := some 27) (Nj := some 10) #[true, true, true, false, true, true, false, false, false, false, false, false, false] #[true, false, true, false, true, true, false, false, false, false, true, false, false] rfl rfl rfl rfl (two_of HT_.out (by kernel_rfl)) (by decide) (by decide) (fun K hK => ?_) (fun K hK => ?_)
   ·skip
    refine goes_ Try.func26 (by kernel_rfl) rfl #[.agg #[.slice A0_0 l0_0.length c0_0]] (by rfl) rfl rfl (by (try simp only [List.map_toArray, List.map_cons, List.map_nil]); first | done | rfl | (simp only [List.length_drop, List.length_take]; rfl)) ?_
    with_reducible refine (laws_toArena.calls k _ _ l0_0 t176 _ ?side1 ?side2 A12.out).mono ?_
    (case side1 => repeat (first | exact (Kd.C_below HR0_0.out HB.out) | (with_reducible refine Kd.C_alloc ?_ _) | (with_reducible refine Kd.C_drewN ?_ _) | (with_reducible refine Kd.C_drew ?_)))
    (case side2 => exact HC0_0.out)
    rintro e w25 ⟨v177, rfl, ho0, hb⟩
    refine ⟨_, rfl, ?_⟩
    have n0_ := z_aM (Kd.R_lower ho0 (z_bZ (by repeat (first | (with_reducible first | exact HB.out | apply z_bA | apply z_bN | apply z_bD | refine z_bS ?_ GE173.out | refine z_bS ?_ GE174.out) | exact HB.out))))
    have n1_ := z_aM (z_kB (by (with_reducible repeat (first | apply z_kN | apply z_kD | apply z_kA)); exact BK173.out) hb)
    have n2_ := z_aM (z_kB (by (with_reducible repeat (first | apply z_kN | apply z_kD | apply z_kA)); exact BK174.out) hb)
    have n3_ := z_aM (z_bT (by repeat (first | (with_reducible first | exact HB.out | apply z_bA | apply z_bN | apply z_bD | refine z_bS ?_ GE173.out | refine z_bS ?_ GE174.out) | exact HB.out)) hb)
    clear BK173
    clear BK174
    clear HB
    have HO178 := n0_
    have BK173 := n1_
    have BK174 := n2_
    have HB := n3_
    clear n0_ n1_ n2_ n3_
    (try clear hb)
    (try clear hb2)
    (try clear hk)
    (try clear hi)
    (try clear ho0)
    refine hK.out _ _ ⟨(z_kC BK173.out 0).trans rfl, (z_kC BK174.out 0).trans rfl, (z_kC BK174.out 1).trans rfl⟩ (fun hHeld => ?_)
    clear hK K
    refine norm_ (a' := ?_) ?_ ?_
    rotate_left
    ·show Act.put _ (some 27) _ = _
     simp only [Act.put, z_lA, z_lZ, z_lS, i64_w, i32_w]
     rfl
    refine two_ (i := 3) (j := 10) (Ni := some 29) (Nj := some 10) #[true, true, true, true, true, true, false, false, false, false, false, false, false] #[true, true, true, false, true, true, false, false, false, false, true, false, false] rfl rfl rfl rfl (two_of HT_.out (by kernel_rfl)) (by decide) (by decide) (fun K hK => ?_) (fun K hK => ?_)
    ·skip
     refine goes_ Try.func27 (by kernel_rfl) rfl #[.agg #[.int .i64 a1_0, .int .i64 a1_1]] (by rfl) rfl rfl (by (try simp only [List.map_toArray, List.map_cons, List.map_nil]); first | done | rfl | (simp only [List.length_drop, List.length_take]; rfl)) ?_
     with_reducible refine (laws_toRegion.calls a1_0 a1_1 t179 t180 _ A13.out).mono ?_
     rintro e w26 ⟨rfl, hb⟩
     refine ⟨_, rfl, ?_⟩
     have n0_ := z_aM (z_rB (by (with_reducible repeat (first | apply z_rA | apply z_rN | apply z_rD)); exact HO178.out) hb)
     have n1_ := z_aM (z_kB (by (with_reducible repeat (first | apply z_kN | apply z_kD | apply z_kA)); exact BK173.out) hb)
     have n2_ := z_aM (z_kB (by (with_reducible repeat (first | apply z_kN | apply z_kD | apply z_kA)); exact BK174.out) hb)
     have n3_ := z_aM (z_bT (by repeat (first | (with_reducible first | exact HB.out | apply z_bA | apply z_bN | apply z_bD | refine z_bS ?_ GE173.out | refine z_bS ?_ GE174.out) | exact HB.out)) hb)
     clear HO178
     clear BK173
     clear BK174
     clear HB
     have HO178 := n0_
     have BK173 := n1_
     have BK174 := n2_
     have HB := n3_
     clear n0_ n1_ n2_ n3_
     (try clear hb)
     (try clear hb2)
     (try clear hk)
     (try clear hi)
     obtain ⟨Ao27, co27, eo27⟩ := Kd.R_slice HO178.out
     (first | subst eo27 | (injection eo27 with f1_ f2_ f3_; have f4_ := f1_.symm; have f5_ := f3_.symm; clear f1_ f2_ f3_; subst f4_; subst f5_))
     refine hK.out _ _ ⟨(z_kC BK173.out 0).trans rfl, (z_kC BK174.out 0).trans rfl, (z_kC BK174.out 1).trans rfl⟩ (fun hHeld => ?_)
     clear hK K
     refine norm_ (a' := ?_) ?_ ?_
     rotate_left
     ·show Act.put _ (some 29) _ = _
      simp only [Act.put, z_lA, z_lZ, z_lS, i64_w, i32_w]
      rfl
     refine two_ (i := 6) (j := 10) (Ni := some 32) (Nj := some 10) #[true, true, true, true, true, true, true, false, false, false, false, false, false] #[true, true, true, true, true, true, false, false, false, false, true, false, false] rfl rfl rfl rfl (two_of HT_.out (by kernel_rfl)) (by decide) (by decide) (fun K hK => ?_) (fun K hK => ?_)
     ·skip
      refine goes_ Try.func25 (by kernel_rfl) rfl #[.agg #[.slice Ao27 t176.length co27], .agg #[.int .i64 t179, .int .i64 t180], .int .i64 a2, .int .i64 a3] (by rfl) rfl rfl (by (try simp only [List.map_toArray, List.map_cons, List.map_nil]); first | done | rfl | (simp only [List.length_drop, List.length_take]; rfl)) ?_
      with_reducible refine (spec_StoreCell.calls _ _ t176 t179 t180 a2 a3 t181 t184 _ ?side1 ?side2 A14.out).mono ?_
      (case side1 => repeat (first | exact (Kd.R_reads' HO178.out).2.2 | (with_reducible refine Kd.C_alloc ?_ _) | (with_reducible refine Kd.C_drewN ?_ _) | (with_reducible refine Kd.C_drew ?_)))
      (case side2 => exact (Kd.R_reads' HO178.out).2.1)
      rintro e w28 ⟨v182, rfl, ho0, hb⟩
      refine ⟨_, rfl, ?_⟩
      have n0_ := z_aM (Kd.R_elder' (by (with_reducible repeat (first | apply z_rA | apply z_rN | apply z_rD)); exact HO178.out) (Kd.R_base ho0) hb)
      have n1_ := z_aM (Kd.R_lower (Kd.R_new' ho0 (z_rL (by (with_reducible repeat (first | apply z_rA | apply z_rN | apply z_rD)); exact HO178.out))) (z_bZ (by repeat (first | (with_reducible first | exact HB.out | apply z_bA | apply z_bN | apply z_bD | refine z_bS ?_ GE173.out | refine z_bS ?_ GE174.out) | exact HB.out))))
      have n2_ := z_aM (z_kB (by (with_reducible repeat (first | apply z_kN | apply z_kD | apply z_kA)); exact BK173.out) hb)
      have n3_ := z_aM (z_kB (by (with_reducible repeat (first | apply z_kN | apply z_kD | apply z_kA)); exact BK174.out) hb)
      have n4_ := z_aM (z_bT (by repeat (first | (with_reducible first | exact HB.out | apply z_bA | apply z_bN | apply z_bD | refine z_bS ?_ GE173.out | refine z_bS ?_ GE174.out) | exact HB.out)) hb)
      clear HO178
      clear BK173
      clear BK174
      clear HB
      have HO178 := n0_
      have HO183 := n1_
      have BK173 := n2_
      have BK174 := n3_
      have HB := n4_
      clear n0_ n1_ n2_ n3_ n4_
      (try clear hb)
      (try clear hb2)
      (try clear hk)
      (try clear hi)
      (try clear ho0)
      refine hK.out _ _ ⟨(z_kC BK173.out 0).trans rfl, (z_kC BK174.out 0).trans rfl, (z_kC BK174.out 1).trans rfl⟩ (fun hHeld => ?_)
      clear hK K
      refine norm_ (a' := ?_) ?_ ?_
      rotate_left
      ·show Act.put _ (some 32) _ = _
       simp only [Act.put, z_lA, z_lZ, z_lS, i64_w, i32_w]
       rfl
      refine pure_ (i := 7) (N := some 25) (v := ?_) (a' := ?_) #[true, true, true, true, true, true, true, true, false, false, false, false, false] rfl rfl (any_of HT_.out (by kernel_rfl)) (fun _ _ _ h => h) (Or.inl ⟨by rfl, ?_⟩) ?_ ?_
      rotate_left
      ·intro w'
       go_simp
       with_reducible rfl
      rotate_left
      ·simp only [Act.put, z_lA, z_lZ, z_lS, i64_w, i32_w]
       rfl
      refine pure_ (i := 8) (N := some 33) (v := ?_) (a' := ?_) #[true, true, true, true, true, true, true, true, true, false, false, false, false] rfl rfl (any_of HT_.out (by kernel_rfl)) (fun _ _ _ h => h) (Or.inl ⟨by rfl, ?_⟩) ?_ ?_
      rotate_left
      ·intro w'
       go_simp
       with_reducible rfl
      rotate_left
      ·simp only [Act.put, z_lA, z_lZ, z_lS, i64_w, i32_w]
       rfl
      refine pure_ (i := 9) (N := some 34) (v := ?_) (a' := ?_) #[true, true, true, true, true, true, true, true, true, true, false, false, false] rfl rfl (any_of HT_.out (by kernel_rfl)) (fun _ _ _ h => h) (Or.inl ⟨by rfl, ?_⟩) ?_ ?_
      rotate_left
      ·intro w'
       go_simp
       with_reducible rfl
      rotate_left
      ·simp only [Act.put, z_lA, z_lZ, z_lS, i64_w, i32_w]
       rfl
      refine one_ (i := 10) (N := some 10) #[true, true, true, true, true, true, true, true, true, true, true, false, false] rfl rfl (one_of HT_.out (by kernel_rfl)) (by decide) (fun K hK => ?_)
      refine box_step ?hg (N := 10) ?hd (cs := #[.slice none 0 0]) (t := 29) ?hr ?_; (case hd => rfl); (case hg => rfl); (case hr => first | (go_simp; done) | (go_simp; rfl))
      intro gb185 hg w29 hbox hb
      have n0_ := z_aM (z_rB (by (with_reducible repeat (first | apply z_rA | apply z_rN | apply z_rD)); exact HO178.out) hb)
      have n1_ := z_aM (z_rB (by (with_reducible repeat (first | apply z_rA | apply z_rN | apply z_rD)); exact HO183.out) hb)
      have n2_ := z_aM (z_kB (by (with_reducible repeat (first | apply z_kN | apply z_kD | apply z_kA)); exact BK173.out) hb)
      have n3_ := z_aM (z_kB (by (with_reducible repeat (first | apply z_kN | apply z_kD | apply z_kA)); exact BK174.out) hb)
      have n4_ := z_aM (z_bT (by repeat (first | (with_reducible first | exact HB.out | apply z_bA | apply z_bN | apply z_bD | refine z_bS ?_ GE173.out | refine z_bS ?_ GE174.out) | exact HB.out)) hb)
      have n5_ := z_aM (hbox)
      have n6_ := z_aM ((by rw [hg]; exact (z_bZ (by repeat (first | (with_reducible first | exact HB.out | apply z_bA | apply z_bN | apply z_bD | refine z_bS ?_ GE173.out | refine z_bS ?_ GE174.out) | exact HB.out))) : w.heap.size ≤ gb185))
      have n7_ := z_aM ((by rw [hg]; exact (z_bZ (by repeat (first | (with_reducible first | exact HB.out | apply z_bA | apply z_bN | apply z_bD | refine z_bS ?_ GE173.out | refine z_bS ?_ GE174.out) | exact HB.out))) : w.heap.size ≤ gb185))
      have n8_ := z_aM ((by rw [hg]; exact Nat.ne_of_lt (z_kL (by (with_reducible repeat (first | apply z_kN | apply z_kD | apply z_kA)); exact BK173.out)) : gb173 ≠ gb185))
      have n9_ := z_aM ((by rw [hg]; exact Nat.ne_of_gt (z_kL (by (with_reducible repeat (first | apply z_kN | apply z_kD | apply z_kA)); exact BK173.out)) : gb185 ≠ gb173))
      have n10_ := z_aM ((by rw [hg]; exact Nat.ne_of_lt (z_kL (by (with_reducible repeat (first | apply z_kN | apply z_kD | apply z_kA)); exact BK174.out)) : gb174 ≠ gb185))
      have n11_ := z_aM ((by rw [hg]; exact Nat.ne_of_gt (z_kL (by (with_reducible repeat (first | apply z_kN | apply z_kD | apply z_kA)); exact BK174.out)) : gb185 ≠ gb174))
      clear HO178
      clear HO183
      clear BK173
      clear BK174
      clear HB
      have HO178 := n0_
      have HO183 := n1_
      have BK173 := n2_
      have BK174 := n3_
      have HB := n4_
      have BK185 := n5_
      have GW185 := n6_
      have GE185 := n7_
      have NB173_185 := n8_
      have NB185_173 := n9_
      have NB174_185 := n10_
      have NB185_174 := n11_
      clear n0_ n1_ n2_ n3_ n4_ n5_ n6_ n7_ n8_ n9_ n10_ n11_
      clear hb hbox hg
      refine hK.out _ _ ⟨(z_kC BK173.out 0).trans rfl, (z_kC BK174.out 0).trans rfl, (z_kC BK174.out 1).trans rfl⟩ (fun hHeld => ?_)
      clear hK K
      refine norm_ (a' := ?_) ?_ ?_
      rotate_left
      ·show Act.put _ (some 10) _ = _
       simp only [Act.put, z_lA, z_lZ, z_lS, i64_w, i32_w]
       rfl
      exact norm_ (by simp only [putAll, Act.put, z_lA, z_lZ, z_lS]) (hCont (.slice Ao27 t176.length co27, v182, gb185) _ ⟨hHeld, (by (with_reducible repeat (first | apply z_rA | apply z_rN | apply z_rD)); exact z_rM HO178.out (fun _ hk => hk.2)), (by (with_reducible repeat (first | apply z_rA | apply z_rN | apply z_rD)); exact z_rM HO183.out (fun _ hk => hk.2)), (by (with_reducible repeat (first | apply z_kN | apply z_kD | apply z_kA)); exact BK173.out), (by (with_reducible repeat (first | apply z_kN | apply z_kD | apply z_kA)); exact BK174.out), (by (with_reducible repeat (first | apply z_kN | apply z_kD | apply z_kA)); exact BK185.out), GW185.out, GE185.out, NB173_185.out, NB185_173.out, NB174_185.out, NB185_174.out, (by repeat (first | (with_reducible first | exact HB.out | apply z_bA | apply z_bN | apply z_bD | refine z_bS ?_ GE173.out | refine z_bS ?_ GE174.out | refine z_bS ?_ GE185.out) | exact HB.out))⟩)
     ·skip
      refine box_step ?hg (N := 10) ?hd (cs := #[.slice none 0 0]) (t := 29) ?hr ?_; (case hd => rfl); (case hg => rfl); (case hr => first | (go_simp; done) | (go_simp; rfl))
      intro gb185 hg w27 hbox hb
      have n0_ := z_aM (z_rB (by (with_reducible repeat (first | apply z_rA | apply z_rN | apply z_rD)); exact HO178.out) hb)
      have n1_ := z_aM (z_kB (by (with_reducible repeat (first | apply z_kN | apply z_kD | apply z_kA)); exact BK173.out) hb)
      have n2_ := z_aM (z_kB (by (with_reducible repeat (first | apply z_kN | apply z_kD | apply z_kA)); exact BK174.out) hb)
      have n3_ := z_aM (z_bT (by repeat (first | (with_reducible first | exact HB.out | apply z_bA | apply z_bN | apply z_bD | refine z_bS ?_ GE173.out | refine z_bS ?_ GE174.out) | exact HB.out)) hb)
      have n4_ := z_aM (hbox)
      have n5_ := z_aM ((by rw [hg]; exact (z_bZ (by repeat (first | (with_reducible first | exact HB.out | apply z_bA | apply z_bN | apply z_bD | refine z_bS ?_ GE173.out | refine z_bS ?_ GE174.out) | exact HB.out))) : w.heap.size ≤ gb185))
      have n6_ := z_aM ((by rw [hg]; exact (z_bZ (by repeat (first | (with_reducible first | exact HB.out | apply z_bA | apply z_bN | apply z_bD | refine z_bS ?_ GE173.out | refine z_bS ?_ GE174.out) | exact HB.out))) : w.heap.size ≤ gb185))
      have n7_ := z_aM ((by rw [hg]; exact Nat.ne_of_lt (z_kL (by (with_reducible repeat (first | apply z_kN | apply z_kD | apply z_kA)); exact BK173.out)) : gb173 ≠ gb185))
      have n8_ := z_aM ((by rw [hg]; exact Nat.ne_of_gt (z_kL (by (with_reducible repeat (first | apply z_kN | apply z_kD | apply z_kA)); exact BK173.out)) : gb185 ≠ gb173))
      have n9_ := z_aM ((by rw [hg]; exact Nat.ne_of_lt (z_kL (by (with_reducible repeat (first | apply z_kN | apply z_kD | apply z_kA)); exact BK174.out)) : gb174 ≠ gb185))
      have n10_ := z_aM ((by rw [hg]; exact Nat.ne_of_gt (z_kL (by (with_reducible repeat (first | apply z_kN | apply z_kD | apply z_kA)); exact BK174.out)) : gb185 ≠ gb174))
      clear HO178
      clear BK173
      clear BK174
      clear HB
      have HO178 := n0_
      have BK173 := n1_
      have BK174 := n2_
      have HB := n3_
      have BK185 := n4_
      have GW185 := n5_
      have GE185 := n6_
      have NB173_185 := n7_
      have NB185_173 := n8_
      have NB174_185 := n9_
      have NB185_174 := n10_
      clear n0_ n1_ n2_ n3_ n4_ n5_ n6_ n7_ n8_ n9_ n10_
      clear hb hbox hg
      obtain ⟨Ao28, co28, eo28⟩ := Kd.R_slice HO178.out
      (first | subst eo28 | (injection eo28 with f1_ f2_ f3_; have f4_ := f1_.symm; have f5_ := f3_.symm; clear f1_ f2_ f3_; subst f4_; subst f5_))
      refine hK.out _ _ ⟨(z_kC BK173.out 0).trans rfl, (z_kC BK174.out 0).trans rfl, (z_kC BK174.out 1).trans rfl⟩ (fun hHeld => ?_)
      clear hK K
      refine norm_ (a' := ?_) ?_ ?_
      rotate_left
      ·show Act.put _ (some 10) _ = _
       simp only [Act.put, z_lA, z_lZ, z_lS, i64_w, i32_w]
       rfl
      refine one_ (i := 6) (N := some 32) #[true, true, true, true, true, true, true, false, false, false, true, false, false] rfl rfl (one_of HT_.out (by kernel_rfl)) (by decide) (fun K hK => ?_)
      refine goes_ Try.func25 (by kernel_rfl) rfl #[.agg #[.slice Ao28 t176.length co28], .agg #[.int .i64 t179, .int .i64 t180], .int .i64 a2, .int .i64 a3] (by rfl) rfl rfl (by (try simp only [List.map_toArray, List.map_cons, List.map_nil]); first | done | rfl | (simp only [List.length_drop, List.length_take]; rfl)) ?_
      with_reducible refine (spec_StoreCell.calls _ _ t176 t179 t180 a2 a3 t181 t184 _ ?side1 ?side2 A14.out).mono ?_
      (case side1 => repeat (first | exact (Kd.R_reads' HO178.out).2.2 | (with_reducible refine Kd.C_alloc ?_ _) | (with_reducible refine Kd.C_drewN ?_ _) | (with_reducible refine Kd.C_drew ?_)))
      (case side2 => exact (Kd.R_reads' HO178.out).2.1)
      rintro e w29 ⟨v182, rfl, ho0, hb⟩
      refine ⟨_, rfl, ?_⟩
      have n0_ := z_aM (Kd.R_elder' (by (with_reducible repeat (first | apply z_rA | apply z_rN | apply z_rD)); exact HO178.out) (Kd.R_base ho0) hb)
      have n1_ := z_aM (Kd.R_lower (Kd.R_new' ho0 (z_rL (by (with_reducible repeat (first | apply z_rA | apply z_rN | apply z_rD)); exact HO178.out))) (z_bZ (by repeat (first | (with_reducible first | exact HB.out | apply z_bA | apply z_bN | apply z_bD | refine z_bS ?_ GE173.out | refine z_bS ?_ GE174.out | refine z_bS ?_ GE185.out) | exact HB.out))))
      have n2_ := z_aM (z_kB (by (with_reducible repeat (first | apply z_kN | apply z_kD | apply z_kA)); exact BK173.out) hb)
      have n3_ := z_aM (z_kB (by (with_reducible repeat (first | apply z_kN | apply z_kD | apply z_kA)); exact BK174.out) hb)
      have n4_ := z_aM (z_kB (by (with_reducible repeat (first | apply z_kN | apply z_kD | apply z_kA)); exact BK185.out) hb)
      have n5_ := z_aM (z_bT (by repeat (first | (with_reducible first | exact HB.out | apply z_bA | apply z_bN | apply z_bD | refine z_bS ?_ GE173.out | refine z_bS ?_ GE174.out | refine z_bS ?_ GE185.out) | exact HB.out)) hb)
      clear HO178
      clear BK173
      clear BK174
      clear BK185
      clear HB
      have HO178 := n0_
      have HO183 := n1_
      have BK173 := n2_
      have BK174 := n3_
      have BK185 := n4_
      have HB := n5_
      clear n0_ n1_ n2_ n3_ n4_ n5_
      (try clear hb)
      (try clear hb2)
      (try clear hk)
      (try clear hi)
      (try clear ho0)
      refine hK.out _ _ ⟨(z_kC BK173.out 0).trans rfl, (z_kC BK174.out 0).trans rfl, (z_kC BK174.out 1).trans rfl⟩ (fun hHeld => ?_)
      clear hK K
      refine norm_ (a' := ?_) ?_ ?_
      rotate_left
      ·show Act.put _ (some 32) _ = _
       simp only [Act.put, z_lA, z_lZ, z_lS, i64_w, i32_w]
       rfl
      refine pure_ (i := 7) (N := some 25) (v := ?_) (a' := ?_) #[true, true, true, true, true, true, true, true, false, false, true, false, false] rfl rfl (any_of HT_.out (by kernel_rfl)) (fun _ _ _ h => h) (Or.inl ⟨by rfl, ?_⟩) ?_ ?_
      rotate_left
      ·intro w'
       go_simp
       with_reducible rfl
      rotate_left
      ·simp only [Act.put, z_lA, z_lZ, z_lS, i64_w, i32_w]
       rfl
      refine pure_ (i := 8) (N := some 33) (v := ?_) (a' := ?_) #[true, true, true, true, true, true, true, true, true, false, true, false, false] rfl rfl (any_of HT_.out (by kernel_rfl)) (fun _ _ _ h => h) (Or.inl ⟨by rfl, ?_⟩) ?_ ?_
      rotate_left
      ·intro w'
       go_simp
       with_reducible rfl
      rotate_left
      ·simp only [Act.put, z_lA, z_lZ, z_lS, i64_w, i32_w]
       rfl
      refine pure_ (i := 9) (N := some 34) (v := ?_) (a' := ?_) #[true, true, true, true, true, true, true, true, true, true, true, false, false] rfl rfl (any_of HT_.out (by kernel_rfl)) (fun _ _ _ h => h) (Or.inl ⟨by rfl, ?_⟩) ?_ ?_
      rotate_left
      ·intro w'
       go_simp
       with_reducible rfl
      rotate_left
      ·simp only [Act.put, z_lA, z_lZ, z_lS, i64_w, i32_w]
       rfl
      exact norm_ (by simp only [putAll, Act.put, z_lA, z_lZ, z_lS]) (hCont (.slice Ao28 t176.length co28, v182, gb185) _ ⟨hHeld, (by (with_reducible repeat (first | apply z_rA | apply z_rN | apply z_rD)); exact z_rM HO178.out (fun _ hk => hk.2)), (by (with_reducible repeat (first | apply z_rA | apply z_rN | apply z_rD)); exact z_rM HO183.out (fun _ hk => hk.2)), (by (with_reducible repeat (first | apply z_kN | apply z_kD | apply z_kA)); exact BK173.out), (by (with_reducible repeat (first | apply z_kN | apply z_kD | apply z_kA)); exact BK174.out), (by (with_reducible repeat (first | apply z_kN | apply z_kD | apply z_kA)); exact BK185.out), GW185.out, GE185.out, NB173_185.out, NB185_173.out, NB174_185.out, NB185_174.out, (by repeat (first | (with_reducible first | exact HB.out | apply z_bA | apply z_bN | apply z_bD | refine z_bS ?_ GE173.out | refine z_bS ?_ GE174.out | refine z_bS ?_ GE185.out) | exact HB.out))⟩)
    ·skip
     refine box_step ?hg (N := 10) ?hd (cs := #[.slice none 0 0]) (t := 29) ?hr ?_; (case hd => rfl); (case hg => rfl); (case hr => first | (go_simp; done) | (go_simp; rfl))
     intro gb185 hg w26 hbox hb
     have n0_ := z_aM (z_rB (by (with_reducible repeat (first | apply z_rA | apply z_rN | apply z_rD)); exact HO178.out) hb)
     have n1_ := z_aM (z_kB (by (with_reducible repeat (first | apply z_kN | apply z_kD | apply z_kA)); exact BK173.out) hb)
     have n2_ := z_aM (z_kB (by (with_reducible repeat (first | apply z_kN | apply z_kD | apply z_kA)); exact BK174.out) hb)
     have n3_ := z_aM (z_bT (by repeat (first | (with_reducible first | exact HB.out | apply z_bA | apply z_bN | apply z_bD | refine z_bS ?_ GE173.out | refine z_bS ?_ GE174.out) | exact HB.out)) hb)
     have n4_ := z_aM (hbox)
     have n5_ := z_aM ((by rw [hg]; exact (z_bZ (by repeat (first | (with_reducible first | exact HB.out | apply z_bA | apply z_bN | apply z_bD | refine z_bS ?_ GE173.out | refine z_bS ?_ GE174.out) | exact HB.out))) : w.heap.size ≤ gb185))
     have n6_ := z_aM ((by rw [hg]; exact (z_bZ (by repeat (first | (with_reducible first | exact HB.out | apply z_bA | apply z_bN | apply z_bD | refine z_bS ?_ GE173.out | refine z_bS ?_ GE174.out) | exact HB.out))) : w.heap.size ≤ gb185))
     have n7_ := z_aM ((by rw [hg]; exact Nat.ne_of_lt (z_kL (by (with_reducible repeat (first | apply z_kN | apply z_kD | apply z_kA)); exact BK173.out)) : gb173 ≠ gb185))
     have n8_ := z_aM ((by rw [hg]; exact Nat.ne_of_gt (z_kL (by (with_reducible repeat (first | apply z_kN | apply z_kD | apply z_kA)); exact BK173.out)) : gb185 ≠ gb173))
     have n9_ := z_aM ((by rw [hg]; exact Nat.ne_of_lt (z_kL (by (with_reducible repeat (first | apply z_kN | apply z_kD | apply z_kA)); exact BK174.out)) : gb174 ≠ gb185))
     have n10_ := z_aM ((by rw [hg]; exact Nat.ne_of_gt (z_kL (by (with_reducible repeat (first | apply z_kN | apply z_kD | apply z_kA)); exact BK174.out)) : gb185 ≠ gb174))
     clear HO178
     clear BK173
     clear BK174
     clear HB
     have HO178 := n0_
     have BK173 := n1_
     have BK174 := n2_
     have HB := n3_
     have BK185 := n4_
     have GW185 := n5_
     have GE185 := n6_
     have NB173_185 := n7_
     have NB185_173 := n8_
     have NB174_185 := n9_
     have NB185_174 := n10_
     clear n0_ n1_ n2_ n3_ n4_ n5_ n6_ n7_ n8_ n9_ n10_
     clear hb hbox hg
     refine hK.out _ _ ⟨(z_kC BK173.out 0).trans rfl, (z_kC BK174.out 0).trans rfl, (z_kC BK174.out 1).trans rfl⟩ (fun hHeld => ?_)
     clear hK K
     refine norm_ (a' := ?_) ?_ ?_
     rotate_left
     ·show Act.put _ (some 10) _ = _
      simp only [Act.put, z_lA, z_lZ, z_lS, i64_w, i32_w]
      rfl
     refine one_ (i := 3) (N := some 29) #[true, true, true, true, true, true, false, false, false, false, true, false, false] rfl rfl (one_of HT_.out (by kernel_rfl)) (by decide) (fun K hK => ?_)
     refine goes_ Try.func27 (by kernel_rfl) rfl #[.agg #[.int .i64 a1_0, .int .i64 a1_1]] (by rfl) rfl rfl (by (try simp only [List.map_toArray, List.map_cons, List.map_nil]); first | done | rfl | (simp only [List.length_drop, List.length_take]; rfl)) ?_
     with_reducible refine (laws_toRegion.calls a1_0 a1_1 t179 t180 _ A13.out).mono ?_
     rintro e w27 ⟨rfl, hb⟩
     refine ⟨_, rfl, ?_⟩
     have n0_ := z_aM (z_rB (by (with_reducible repeat (first | apply z_rA | apply z_rN | apply z_rD)); exact HO178.out) hb)
     have n1_ := z_aM (z_kB (by (with_reducible repeat (first | apply z_kN | apply z_kD | apply z_kA)); exact BK173.out) hb)
     have n2_ := z_aM (z_kB (by (with_reducible repeat (first | apply z_kN | apply z_kD | apply z_kA)); exact BK174.out) hb)
     have n3_ := z_aM (z_kB (by (with_reducible repeat (first | apply z_kN | apply z_kD | apply z_kA)); exact BK185.out) hb)
     have n4_ := z_aM (z_bT (by repeat (first | (with_reducible first | exact HB.out | apply z_bA | apply z_bN | apply z_bD | refine z_bS ?_ GE173.out | refine z_bS ?_ GE174.out | refine z_bS ?_ GE185.out) | exact HB.out)) hb)
     clear HO178
     clear BK173
     clear BK174
     clear BK185
     clear HB
     have HO178 := n0_
     have BK173 := n1_
     have BK174 := n2_
     have BK185 := n3_
     have HB := n4_
     clear n0_ n1_ n2_ n3_ n4_
     (try clear hb)
     (try clear hb2)
     (try clear hk)
     (try clear hi)
     obtain ⟨Ao28, co28, eo28⟩ := Kd.R_slice HO178.out
     (first | subst eo28 | (injection eo28 with f1_ f2_ f3_; have f4_ := f1_.symm; have f5_ := f3_.symm; clear f1_ f2_ f3_; subst f4_; subst f5_))
     refine hK.out _ _ ⟨(z_kC BK173.out 0).trans rfl, (z_kC BK174.out 0).trans rfl, (z_kC BK174.out 1).trans rfl⟩ (fun hHeld => ?_)
     clear hK K
     refine norm_ (a' := ?_) ?_ ?_
     rotate_left
     ·show Act.put _ (some 29) _ = _
      simp only [Act.put, z_lA, z_lZ, z_lS, i64_w, i32_w]
      rfl
     refine one_ (i := 6) (N := some 32) #[true, true, true, true, true, true, true, false, false, false, true, false, false] rfl rfl (one_of HT_.out (by kernel_rfl)) (by decide) (fun K hK => ?_)
     refine goes_ Try.func25 (by kernel_rfl) rfl #[.agg #[.slice Ao28 t176.length co28], .agg #[.int .i64 t179, .int .i64 t180], .int .i64 a2, .int .i64 a3] (by rfl) rfl rfl (by (try simp only [List.map_toArray, List.map_cons, List.map_nil]); first | done | rfl | (simp only [List.length_drop, List.length_take]; rfl)) ?_
     with_reducible refine (spec_StoreCell.calls _ _ t176 t179 t180 a2 a3 t181 t184 _ ?side1 ?side2 A14.out).mono ?_
     (case side1 => repeat (first | exact (Kd.R_reads' HO178.out).2.2 | (with_reducible refine Kd.C_alloc ?_ _) | (with_reducible refine Kd.C_drewN ?_ _) | (with_reducible refine Kd.C_drew ?_)))
     (case side2 => exact (Kd.R_reads' HO178.out).2.1)
     rintro e w29 ⟨v182, rfl, ho0, hb⟩
     refine ⟨_, rfl, ?_⟩
     have n0_ := z_aM (Kd.R_elder' (by (with_reducible repeat (first | apply z_rA | apply z_rN | apply z_rD)); exact HO178.out) (Kd.R_base ho0) hb)
     have n1_ := z_aM (Kd.R_lower (Kd.R_new' ho0 (z_rL (by (with_reducible repeat (first | apply z_rA | apply z_rN | apply z_rD)); exact HO178.out))) (z_bZ (by repeat (first | (with_reducible first | exact HB.out | apply z_bA | apply z_bN | apply z_bD | refine z_bS ?_ GE173.out | refine z_bS ?_ GE174.out | refine z_bS ?_ GE185.out) | exact HB.out))))
     have n2_ := z_aM (z_kB (by (with_reducible repeat (first | apply z_kN | apply z_kD | apply z_kA)); exact BK173.out) hb)
     have n3_ := z_aM (z_kB (by (with_reducible repeat (first | apply z_kN | apply z_kD | apply z_kA)); exact BK174.out) hb)
     have n4_ := z_aM (z_kB (by (with_reducible repeat (first | apply z_kN | apply z_kD | apply z_kA)); exact BK185.out) hb)
     have n5_ := z_aM (z_bT (by repeat (first | (with_reducible first | exact HB.out | apply z_bA | apply z_bN | apply z_bD | refine z_bS ?_ GE173.out | refine z_bS ?_ GE174.out | refine z_bS ?_ GE185.out) | exact HB.out)) hb)
     clear HO178
     clear BK173
     clear BK174
     clear BK185
     clear HB
     have HO178 := n0_
     have HO183 := n1_
     have BK173 := n2_
     have BK174 := n3_
     have BK185 := n4_
     have HB := n5_
     clear n0_ n1_ n2_ n3_ n4_ n5_
     (try clear hb)
     (try clear hb2)
     (try clear hk)
     (try clear hi)
     (try clear ho0)
     refine hK.out _ _ ⟨(z_kC BK173.out 0).trans rfl, (z_kC BK174.out 0).trans rfl, (z_kC BK174.out 1).trans rfl⟩ (fun hHeld => ?_)
     clear hK K
     refine norm_ (a' := ?_) ?_ ?_
     rotate_left
     ·show Act.put _ (some 32) _ = _
      simp only [Act.put, z_lA, z_lZ, z_lS, i64_w, i32_w]
      rfl
     refine pure_ (i := 7) (N := some 25) (v := ?_) (a' := ?_) #[true, true, true, true, true, true, true, true, false, false, true, false, false] rfl rfl (any_of HT_.out (by kernel_rfl)) (fun _ _ _ h => h) (Or.inl ⟨by rfl, ?_⟩) ?_ ?_
     rotate_left
     ·intro w'
      go_simp
      with_reducible rfl
     rotate_left
     ·simp only [Act.put, z_lA, z_lZ, z_lS, i64_w, i32_w]
      rfl
     refine pure_ (i := 8) (N := some 33) (v := ?_) (a' := ?_) #[true, true, true, true, true, true, true, true, true, false, true, false, false] rfl rfl (any_of HT_.out (by kernel_rfl)) (fun _ _ _ h => h) (Or.inl ⟨by rfl, ?_⟩) ?_ ?_
     rotate_left
     ·intro w'
      go_simp
      with_reducible rfl
     rotate_left
     ·simp only [Act.put, z_lA, z_lZ, z_lS, i64_w, i32_w]
      rfl
     refine pure_ (i := 9) (N := some 34) (v := ?_) (a' := ?_) #[true, true, true, true, true, true, true, true, true, true, true, false, false] rfl rfl (any_of HT_.out (by kernel_rfl)) (fun _ _ _ h => h) (Or.inl ⟨by rfl, ?_⟩) ?_ ?_
     rotate_left
     ·intro w'
      go_simp
      with_reducible rfl
     rotate_left
     ·simp only [Act.put, z_lA, z_lZ, z_lS, i64_w, i32_w]
      rfl
     exact norm_ (by simp only [putAll, Act.put, z_lA, z_lZ, z_lS]) (hCont (.slice Ao28 t176.length co28, v182, gb185) _ ⟨hHeld, (by (with_reducible repeat (first | apply z_rA | apply z_rN | apply z_rD)); exact z_rM HO178.out (fun _ hk => hk.2)), (by (with_reducible repeat (first | apply z_rA | apply z_rN | apply z_rD)); exact z_rM HO183.out (fun _ hk => hk.2)), (by (with_reducible repeat (first | apply z_kN | apply z_kD | apply z_kA)); exact BK173.out), (by (with_reducible repeat (first | apply z_kN | apply z_kD | apply z_kA)); exact BK174.out), (by (with_reducible repeat (first | apply z_kN | apply z_kD | apply z_kA)); exact BK185.out), GW185.out, GE185.out, NB173_185.out, NB185_173.out, NB174_185.out, NB185_174.out, (by repeat (first | (with_reducible first | exact HB.out | apply z_bA | apply z_bN | apply z_bD | refine z_bS ?_ GE173.out | refine z_bS ?_ GE174.out | refine z_bS ?_ GE185.out) | exact HB.out))⟩)
   ·skip
    refine box_step ?hg (N := 10) ?hd (cs := #[.slice none 0 0]) (t := 29) ?hr ?_; (case hd => rfl); (case hg => rfl); (case hr => first | (go_simp; done) | (go_simp; rfl))
    intro gb185 hg w25 hbox hb
    have n0_ := z_aM (z_kB (by (with_reducible repeat (first | apply z_kN | apply z_kD | apply z_kA)); exact BK173.out) hb)
    have n1_ := z_aM (z_kB (by (with_reducible repeat (first | apply z_kN | apply z_kD | apply z_kA)); exact BK174.out) hb)
    have n2_ := z_aM (z_bT (by repeat (first | (with_reducible first | exact HB.out | apply z_bA | apply z_bN | apply z_bD | refine z_bS ?_ GE173.out | refine z_bS ?_ GE174.out) | exact HB.out)) hb)
    have n3_ := z_aM (hbox)
    have n4_ := z_aM ((by rw [hg]; exact (z_bZ (by repeat (first | (with_reducible first | exact HB.out | apply z_bA | apply z_bN | apply z_bD | refine z_bS ?_ GE173.out | refine z_bS ?_ GE174.out) | exact HB.out))) : w.heap.size ≤ gb185))
    have n5_ := z_aM ((by rw [hg]; exact (z_bZ (by repeat (first | (with_reducible first | exact HB.out | apply z_bA | apply z_bN | apply z_bD | refine z_bS ?_ GE173.out | refine z_bS ?_ GE174.out) | exact HB.out))) : w.heap.size ≤ gb185))
    have n6_ := z_aM ((by rw [hg]; exact Nat.ne_of_lt (z_kL (by (with_reducible repeat (first | apply z_kN | apply z_kD | apply z_kA)); exact BK173.out)) : gb173 ≠ gb185))
    have n7_ := z_aM ((by rw [hg]; exact Nat.ne_of_gt (z_kL (by (with_reducible repeat (first | apply z_kN | apply z_kD | apply z_kA)); exact BK173.out)) : gb185 ≠ gb173))
    have n8_ := z_aM ((by rw [hg]; exact Nat.ne_of_lt (z_kL (by (with_reducible repeat (first | apply z_kN | apply z_kD | apply z_kA)); exact BK174.out)) : gb174 ≠ gb185))
    have n9_ := z_aM ((by rw [hg]; exact Nat.ne_of_gt (z_kL (by (with_reducible repeat (first | apply z_kN | apply z_kD | apply z_kA)); exact BK174.out)) : gb185 ≠ gb174))
    clear BK173
    clear BK174
    clear HB
    have BK173 := n0_
    have BK174 := n1_
    have HB := n2_
    have BK185 := n3_
    have GW185 := n4_
    have GE185 := n5_
    have NB173_185 := n6_
    have NB185_173 := n7_
    have NB174_185 := n8_
    have NB185_174 := n9_
    clear n0_ n1_ n2_ n3_ n4_ n5_ n6_ n7_ n8_ n9_
    clear hb hbox hg
    refine hK.out _ _ ⟨(z_kC BK173.out 0).trans rfl, (z_kC BK174.out 0).trans rfl, (z_kC BK174.out 1).trans rfl⟩ (fun hHeld => ?_)
    clear hK K
    refine norm_ (a' := ?_) ?_ ?_
    rotate_left
    ·show Act.put _ (some 10) _ = _
     simp only [Act.put, z_lA, z_lZ, z_lS, i64_w, i32_w]
     rfl
    refine one_ (i := 1) (N := some 27) #[true, true, true, false, true, true, false, false, false, false, true, false, false] rfl rfl (one_of HT_.out (by kernel_rfl)) (by decide) (fun K hK => ?_)
    refine goes_ Try.func26 (by kernel_rfl) rfl #[.agg #[.slice A0_0 l0_0.length c0_0]] (by rfl) rfl rfl (by (try simp only [List.map_toArray, List.map_cons, List.map_nil]); first | done | rfl | (simp only [List.length_drop, List.length_take]; rfl)) ?_
    with_reducible refine (laws_toArena.calls k _ _ l0_0 t176 _ ?side1 ?side2 A12.out).mono ?_
    (case side1 => repeat (first | exact (Kd.C_below HR0_0.out HB.out) | (with_reducible refine Kd.C_alloc ?_ _) | (with_reducible refine Kd.C_drewN ?_ _) | (with_reducible refine Kd.C_drew ?_)))
    (case side2 => exact HC0_0.out)
    rintro e w26 ⟨v177, rfl, ho0, hb⟩
    refine ⟨_, rfl, ?_⟩
    have n0_ := z_aM (Kd.R_lower ho0 (z_bZ (by repeat (first | (with_reducible first | exact HB.out | apply z_bA | apply z_bN | apply z_bD | refine z_bS ?_ GE173.out | refine z_bS ?_ GE174.out | refine z_bS ?_ GE185.out) | exact HB.out))))
    have n1_ := z_aM (z_kB (by (with_reducible repeat (first | apply z_kN | apply z_kD | apply z_kA)); exact BK173.out) hb)
    have n2_ := z_aM (z_kB (by (with_reducible repeat (first | apply z_kN | apply z_kD | apply z_kA)); exact BK174.out) hb)
    have n3_ := z_aM (z_kB (by (with_reducible repeat (first | apply z_kN | apply z_kD | apply z_kA)); exact BK185.out) hb)
    have n4_ := z_aM (z_bT (by repeat (first | (with_reducible first | exact HB.out | apply z_bA | apply z_bN | apply z_bD | refine z_bS ?_ GE173.out | refine z_bS ?_ GE174.out | refine z_bS ?_ GE185.out) | exact HB.out)) hb)
    clear BK173
    clear BK174
    clear BK185
    clear HB
    have HO178 := n0_
    have BK173 := n1_
    have BK174 := n2_
    have BK185 := n3_
    have HB := n4_
    clear n0_ n1_ n2_ n3_ n4_
    (try clear hb)
    (try clear hb2)
    (try clear hk)
    (try clear hi)
    (try clear ho0)
    refine hK.out _ _ ⟨(z_kC BK173.out 0).trans rfl, (z_kC BK174.out 0).trans rfl, (z_kC BK174.out 1).trans rfl⟩ (fun hHeld => ?_)
    clear hK K
    refine norm_ (a' := ?_) ?_ ?_
    rotate_left
    ·show Act.put _ (some 27) _ = _
     simp only [Act.put, z_lA, z_lZ, z_lS, i64_w, i32_w]
     rfl
    refine one_ (i := 3) (N := some 29) #[true, true, true, true, true, true, false, false, false, false, true, false, false] rfl rfl (one_of HT_.out (by kernel_rfl)) (by decide) (fun K hK => ?_)
    refine goes_ Try.func27 (by kernel_rfl) rfl #[.agg #[.int .i64 a1_0, .int .i64 a1_1]] (by rfl) rfl rfl (by (try simp only [List.map_toArray, List.map_cons, List.map_nil]); first | done | rfl | (simp only [List.length_drop, List.length_take]; rfl)) ?_
    with_reducible refine (laws_toRegion.calls a1_0 a1_1 t179 t180 _ A13.out).mono ?_
    rintro e w27 ⟨rfl, hb⟩
    refine ⟨_, rfl, ?_⟩
    have n0_ := z_aM (z_rB (by (with_reducible repeat (first | apply z_rA | apply z_rN | apply z_rD)); exact HO178.out) hb)
    have n1_ := z_aM (z_kB (by (with_reducible repeat (first | apply z_kN | apply z_kD | apply z_kA)); exact BK173.out) hb)
    have n2_ := z_aM (z_kB (by (with_reducible repeat (first | apply z_kN | apply z_kD | apply z_kA)); exact BK174.out) hb)
    have n3_ := z_aM (z_kB (by (with_reducible repeat (first | apply z_kN | apply z_kD | apply z_kA)); exact BK185.out) hb)
    have n4_ := z_aM (z_bT (by repeat (first | (with_reducible first | exact HB.out | apply z_bA | apply z_bN | apply z_bD | refine z_bS ?_ GE173.out | refine z_bS ?_ GE174.out | refine z_bS ?_ GE185.out) | exact HB.out)) hb)
    clear HO178
    clear BK173
    clear BK174
    clear BK185
    clear HB
    have HO178 := n0_
    have BK173 := n1_
    have BK174 := n2_
    have BK185 := n3_
    have HB := n4_
    clear n0_ n1_ n2_ n3_ n4_
    (try clear hb)
    (try clear hb2)
    (try clear hk)
    (try clear hi)
    obtain ⟨Ao28, co28, eo28⟩ := Kd.R_slice HO178.out
    (first | subst eo28 | (injection eo28 with f1_ f2_ f3_; have f4_ := f1_.symm; have f5_ := f3_.symm; clear f1_ f2_ f3_; subst f4_; subst f5_))
    refine hK.out _ _ ⟨(z_kC BK173.out 0).trans rfl, (z_kC BK174.out 0).trans rfl, (z_kC BK174.out 1).trans rfl⟩ (fun hHeld => ?_)
    clear hK K
    refine norm_ (a' := ?_) ?_ ?_
    rotate_left
    ·show Act.put _ (some 29) _ = _
     simp only [Act.put, z_lA, z_lZ, z_lS, i64_w, i32_w]
     rfl
    refine one_ (i := 6) (N := some 32) #[true, true, true, true, true, true, true, false, false, false, true, false, false] rfl rfl (one_of HT_.out (by kernel_rfl)) (by decide) (fun K hK => ?_)
    refine goes_ Try.func25 (by kernel_rfl) rfl #[.agg #[.slice Ao28 t176.length co28], .agg #[.int .i64 t179, .int .i64 t180], .int .i64 a2, .int .i64 a3] (by rfl) rfl rfl (by (try simp only [List.map_toArray, List.map_cons, List.map_nil]); first | done | rfl | (simp only [List.length_drop, List.length_take]; rfl)) ?_
    with_reducible refine (spec_StoreCell.calls _ _ t176 t179 t180 a2 a3 t181 t184 _ ?side1 ?side2 A14.out).mono ?_
    (case side1 => repeat (first | exact (Kd.R_reads' HO178.out).2.2 | (with_reducible refine Kd.C_alloc ?_ _) | (with_reducible refine Kd.C_drewN ?_ _) | (with_reducible refine Kd.C_drew ?_)))
    (case side2 => exact (Kd.R_reads' HO178.out).2.1)
    rintro e w29 ⟨v182, rfl, ho0, hb⟩
    refine ⟨_, rfl, ?_⟩
    have n0_ := z_aM (Kd.R_elder' (by (with_reducible repeat (first | apply z_rA | apply z_rN | apply z_rD)); exact HO178.out) (Kd.R_base ho0) hb)
    have n1_ := z_aM (Kd.R_lower (Kd.R_new' ho0 (z_rL (by (with_reducible repeat (first | apply z_rA | apply z_rN | apply z_rD)); exact HO178.out))) (z_bZ (by repeat (first | (with_reducible first | exact HB.out | apply z_bA | apply z_bN | apply z_bD | refine z_bS ?_ GE173.out | refine z_bS ?_ GE174.out | refine z_bS ?_ GE185.out) | exact HB.out))))
    have n2_ := z_aM (z_kB (by (with_reducible repeat (first | apply z_kN | apply z_kD | apply z_kA)); exact BK173.out) hb)
    have n3_ := z_aM (z_kB (by (with_reducible repeat (first | apply z_kN | apply z_kD | apply z_kA)); exact BK174.out) hb)
    have n4_ := z_aM (z_kB (by (with_reducible repeat (first | apply z_kN | apply z_kD | apply z_kA)); exact BK185.out) hb)
    have n5_ := z_aM (z_bT (by repeat (first | (with_reducible first | exact HB.out | apply z_bA | apply z_bN | apply z_bD | refine z_bS ?_ GE173.out | refine z_bS ?_ GE174.out | refine z_bS ?_ GE185.out) | exact HB.out)) hb)
    clear HO178
    clear BK173
    clear BK174
    clear BK185
    clear HB
    have HO178 := n0_
    have HO183 := n1_
    have BK173 := n2_
    have BK174 := n3_
    have BK185 := n4_
    have HB := n5_
    clear n0_ n1_ n2_ n3_ n4_ n5_
    (try clear hb)
    (try clear hb2)
    (try clear hk)
    (try clear hi)
    (try clear ho0)
    refine hK.out _ _ ⟨(z_kC BK173.out 0).trans rfl, (z_kC BK174.out 0).trans rfl, (z_kC BK174.out 1).trans rfl⟩ (fun hHeld => ?_)
    clear hK K
    refine norm_ (a' := ?_) ?_ ?_
    rotate_left
    ·show Act.put _ (some 32) _ = _
     simp only [Act.put, z_lA, z_lZ, z_lS, i64_w, i32_w]
     rfl
    refine pure_ (i := 7) (N := some 25) (v := ?_) (a' := ?_) #[true, true, true, true, true, true, true, true, false, false, true, false, false] rfl rfl (any_of HT_.out (by kernel_rfl)) (fun _ _ _ h => h) (Or.inl ⟨by rfl, ?_⟩) ?_ ?_
    rotate_left
    ·intro w'
     go_simp
     with_reducible rfl
    rotate_left
    ·simp only [Act.put, z_lA, z_lZ, z_lS, i64_w, i32_w]
     rfl
    refine pure_ (i := 8) (N := some 33) (v := ?_) (a' := ?_) #[true, true, true, true, true, true, true, true, true, false, true, false, false] rfl rfl (any_of HT_.out (by kernel_rfl)) (fun _ _ _ h => h) (Or.inl ⟨by rfl, ?_⟩) ?_ ?_
    rotate_left
    ·intro w'
     go_simp
     with_reducible rfl
    rotate_left
    ·simp only [Act.put, z_lA, z_lZ, z_lS, i64_w, i32_w]
     rfl
    refine pure_ (i := 9) (N := some 34) (v := ?_) (a' := ?_) #[true, true, true, true, true, true, true, true, true, true, true, false, false] rfl rfl (any_of HT_.out (by kernel_rfl)) (fun _ _ _ h => h) (Or.inl ⟨by rfl, ?_⟩) ?_ ?_
    rotate_left
    ·intro w'
     go_simp
     with_reducible rfl
    rotate_left
    ·simp only [Act.put, z_lA, z_lZ, z_lS, i64_w, i32_w]
     rfl
    exact norm_ (by simp only [putAll, Act.put, z_lA, z_lZ, z_lS]) (hCont (.slice Ao28 t176.length co28, v182, gb185) _ ⟨hHeld, (by (with_reducible repeat (first | apply z_rA | apply z_rN | apply z_rD)); exact z_rM HO178.out (fun _ hk => hk.2)), (by (with_reducible repeat (first | apply z_rA | apply z_rN | apply z_rD)); exact z_rM HO183.out (fun _ hk => hk.2)), (by (with_reducible repeat (first | apply z_kN | apply z_kD | apply z_kA)); exact BK173.out), (by (with_reducible repeat (first | apply z_kN | apply z_kD | apply z_kA)); exact BK174.out), (by (with_reducible repeat (first | apply z_kN | apply z_kD | apply z_kA)); exact BK185.out), GW185.out, GE185.out, NB173_185.out, NB185_173.out, NB174_185.out, NB185_174.out, (by repeat (first | (with_reducible first | exact HB.out | apply z_bA | apply z_bN | apply z_bD | refine z_bS ?_ GE173.out | refine z_bS ?_ GE174.out | refine z_bS ?_ GE185.out) | exact HB.out))⟩)
  rintro ⟨v177, v182, gb185⟩ w30 ⟨hS_, h0_, h1_, h2_, h3_, h4_, h5_, h6_, h7_, h8_, h9_, h10_, h11_⟩
  have n0_ : Aside0 (Kd.R (Kd.int .i64) 3 w30 w.heap.size (fun k_ => some k_ ≠ (v182 : Value).ownBlock) v177 t176) := ⟨h0_⟩
  have n1_ : Aside0 (Kd.R (Kd.int .i64) 3 w30 w.heap.size (fun k_ => some k_ ≠ (v177 : Value).ownBlock) v182 t181) := ⟨h1_⟩
  have n2_ : Aside0 (w30.heap[gb173]? = some (.cells #[.slice A0_0 l0_0.length c0_0] 41 (0, 0))) := ⟨h2_⟩
  have n3_ : Aside0 (w30.heap[gb174]? = some (.cells #[.int .i64 a1_0, .int .i64 a1_1] 42 (0, 0))) := ⟨h3_⟩
  have n4_ : Aside0 (w30.heap[gb185]? = some (.cells #[.slice none 0 0] 29 (0, 0))) := ⟨h4_⟩
  have n5_ : Aside0 (w.heap.size ≤ gb185) := ⟨h5_⟩
  have n6_ : Aside0 (w.heap.size ≤ gb185) := ⟨h6_⟩
  have n7_ : Aside0 (gb173 ≠ gb185) := ⟨h7_⟩
  have n8_ : Aside0 (gb185 ≠ gb173) := ⟨h8_⟩
  have n9_ : Aside0 (gb174 ≠ gb185) := ⟨h9_⟩
  have n10_ : Aside0 (gb185 ≠ gb174) := ⟨h10_⟩
  have n11_ : Aside0 (Below w.heap.size w w30) := ⟨h11_⟩
  clear BK173
  clear BK174
  clear HB
  clear h0_ h1_ h2_ h3_ h4_ h5_ h6_ h7_ h8_ h9_ h10_ h11_
  have HO178 := n0_
  have HO183 := n1_
  have BK173 := n2_
  have BK174 := n3_
  have BK185 := n4_
  have GW185 := n5_
  have GE185 := n6_
  have NB173_185 := n7_
  have NB185_173 := n8_
  have NB174_185 := n9_
  have NB185_174 := n10_
  have HB := n11_
  clear n0_ n1_ n2_ n3_ n4_ n5_ n6_ n7_ n8_ n9_ n10_ n11_
  have hHeld : w30.cell? ⟨gb173, 0, none⟩ = some (.slice A0_0 l0_0.length c0_0) ∧ w30.cell? ⟨gb174, 0, none⟩ = some (.int .i64 a1_0) ∧ w30.cell? ⟨gb174, 1, none⟩ = some (.int .i64 a1_1) := hS_
  obtain ⟨Ao31, co31, eo31⟩ := Kd.R_slice HO183.out
  (first | subst eo31 | (injection eo31 with f1_ f2_ f3_; have f4_ := f1_.symm; have f5_ := f3_.symm; clear f1_ f2_ f3_; subst f4_; subst f5_))
  refine norm_ (a' := ?_) ?_ ?_
  rotate_left
  ·simp only [putAll, Act.put, z_lA, z_lZ, z_lS]
   rfl
  refine one_ (i := 11) (N := none) #[true, true, true, true, true, true, true, true, true, true, true, true, false] rfl rfl (one_of HT_.out (by kernel_rfl)) (by decide) (fun K hK => ?_)
  have hs32 : w30.cell? ⟨gb185, 0, none⟩ = some (.slice none 0 0) := (z_kC BK185.out 0).trans rfl
  have hfs32 := blk_frozen BK185.out 0
  have hns32_0 := NB173_185.out
  have hns32_1 := NB174_185.out
  have hms32_0 := NB185_173.out
  have hms32_1 := NB185_174.out
  refine skip_ (w1 := ?_) (by rfl) rfl ?_ ?_
  rotate_left
  ·go_simp
   rfl
  refine hK.out _ _ ⟨((cell_far (p := ⟨gb185, _, none⟩) NB173_185.out _).trans (hHeld.1)), ((cell_far (p := ⟨gb185, _, none⟩) NB174_185.out _).trans (hHeld.2.1)), ((cell_far (p := ⟨gb185, _, none⟩) NB174_185.out _).trans (hHeld.2.2))⟩ (fun hHeld => ?_)
  clear hK K
  refine pure_ (i := 12) (N := some 11) (v := ?_) (a' := ?_) #[true, true, true, true, true, true, true, true, true, true, true, true, true] rfl rfl (any_of HT_.out (by kernel_rfl)) (fun _ _ _ h => h) (Or.inl ⟨by rfl, ?_⟩) ?_ ?_
  rotate_left
  ·intro w'
   go_simp
   with_reducible rfl
  rotate_left
  ·simp only [Act.put, z_lA, z_lZ, z_lS, i64_w, i32_w]
   rfl
  refine done_ (done_of HT_.out (by kernel_rfl)) ?_
  have hnb33 := NB173_185.out
  have hnc33 := NB185_173.out
  have hcz34_0 : w30.cell? ⟨gb173, 0, none⟩ = some (.slice A0_0 l0_0.length c0_0) := (z_kC BK173.out 0).trans rfl
  have hfz34_0 := blk_frozen BK173.out 0
  try go_wp2_with (first | ((with_reducible refine gate_callee (f := 26) rfl ?_); refine goesL_ (some 36) rfl rfl Try.func26 (by kernel_rfl) rfl #[.agg #[.slice A0_0 l0_0.length c0_0]] rfl (by (try simp only [List.map_toArray, List.map_cons, List.map_nil]); first | done | rfl | (simp only [List.length_drop, List.length_take]; rfl)) ?_; (with_reducible refine (laws_toArena.calls k _ _ l0_0 t186 _ ?side1 ?side2 A15.out).mono ?_); (case side1 => exact Kd.C_below HR0_0.out (by repeat (first | (with_reducible first | exact HB.out | apply z_bA | apply z_bN | apply z_bD | refine z_bS ?_ GE173.out | refine z_bS ?_ GE174.out | refine z_bS ?_ GE185.out) | exact HB.out))); (case side2 => exact HC0_0.out); rintro e w35 ⟨v187, rfl, ho0, hb⟩; refine ⟨_, rfl, ?_⟩; have n0_ := z_aM (Kd.R_elder' (by (with_reducible repeat (first | apply z_rA | apply z_rN | apply z_rD)); exact (z_rM (Kd.R_far (p := ⟨gb185, 0, none⟩) (Kd.R_types HO178.out BK185.out (by decide)) (fun _ hk => hk.2) (.slice Ao31 t181.length co31)) (fun _ h_ => h_.1))) (Kd.R_base ho0) hb); have n1_ := z_aM (Kd.R_elder' (by (with_reducible repeat (first | apply z_rA | apply z_rN | apply z_rD)); exact (z_rM (Kd.R_far (p := ⟨gb185, 0, none⟩) (Kd.R_types HO183.out BK185.out (by decide)) (fun _ hk => hk.2) (.slice Ao31 t181.length co31)) (fun _ h_ => h_.1))) (Kd.R_base ho0) hb); have n2_ := z_aM (Kd.R_lower (Kd.R_new' (Kd.R_new' ho0 (z_rL (by (with_reducible repeat (first | apply z_rA | apply z_rN | apply z_rD)); exact (z_rM (Kd.R_far (p := ⟨gb185, 0, none⟩) (Kd.R_types HO178.out BK185.out (by decide)) (fun _ hk => hk.2) (.slice Ao31 t181.length co31)) (fun _ h_ => h_.1))))) (z_rL (by (with_reducible repeat (first | apply z_rA | apply z_rN | apply z_rD)); exact (z_rM (Kd.R_far (p := ⟨gb185, 0, none⟩) (Kd.R_types HO183.out BK185.out (by decide)) (fun _ hk => hk.2) (.slice Ao31 t181.length co31)) (fun _ h_ => h_.1))))) (z_bZ (by repeat (first | (with_reducible first | exact HB.out | apply z_bA | apply z_bN | apply z_bD | refine z_bS ?_ GE173.out | refine z_bS ?_ GE174.out | refine z_bS ?_ GE185.out) | exact HB.out)))); have n3_ := z_aM (z_kB (g := gb173) (o := .cells #[.slice A0_0 l0_0.length c0_0] 41 (0, 0)) (by (with_reducible repeat (first | apply z_kN | apply z_kD | apply z_kA)); refine blk_far ?_ NB173_185.out _; (with_reducible repeat (first | apply z_kN | apply z_kD | apply z_kA)); exact BK173.out) hb); have n4_ := z_aM (z_kB (g := gb174) (o := .cells #[.int .i64 a1_0, .int .i64 a1_1] 42 (0, 0)) (by (with_reducible repeat (first | apply z_kN | apply z_kD | apply z_kA)); refine blk_far ?_ NB174_185.out _; (with_reducible repeat (first | apply z_kN | apply z_kD | apply z_kA)); exact BK174.out) hb); have n5_ := z_aM (z_kB (g := gb185) (o := .cells #[.slice Ao31 t181.length co31] 29 (0, 0)) (by (with_reducible repeat (first | apply z_kN | apply z_kD | apply z_kA)); refine blk_put (cs := #[.slice none 0 0]) ?_ 0 _ rfl; (with_reducible repeat (first | apply z_kN | apply z_kD | apply z_kA)); exact BK185.out) hb); have n6_ := z_aM (z_bT (by repeat (first | (with_reducible first | exact HB.out | apply z_bA | apply z_bN | apply z_bD | refine z_bS ?_ GE173.out | refine z_bS ?_ GE174.out | refine z_bS ?_ GE185.out) | exact HB.out)) hb); clear HO178; clear HO183; clear BK173; clear BK174; clear BK185; clear HB; have HO178 := n0_; have HO183 := n1_; have HO188 := n2_; have BK173 := n3_; have BK174 := n4_; have BK185 := n5_; have HB := n6_; clear n0_ n1_ n2_ n3_ n4_ n5_ n6_; (try clear hb); (try clear hb2); (try clear hk); (try clear hi); (try clear ho0)) | ((with_reducible refine gate_dst (N := 12) rfl ?_); refine box_event ?hg (N := 12) ?hd (cs := #[.slice none 0 0]) (t := 29) ?hr ?_; (case hd => rfl); (case hg => rfl); (case hr => first | (go_simp; done) | (go_simp; rfl)); intro gb189 hg w36 hbox hb; have n0_ := z_aM (z_rB (by (with_reducible repeat (first | apply z_rA | apply z_rN | apply z_rD)); exact HO178.out) hb); have n1_ := z_aM (z_rB (by (with_reducible repeat (first | apply z_rA | apply z_rN | apply z_rD)); exact HO183.out) hb); have n2_ := z_aM (z_rB (by (with_reducible repeat (first | apply z_rA | apply z_rN | apply z_rD)); exact HO188.out) hb); have n3_ := z_aM (z_kB (by (with_reducible repeat (first | apply z_kN | apply z_kD | apply z_kA)); exact BK173.out) hb); have n4_ := z_aM (z_kB (by (with_reducible repeat (first | apply z_kN | apply z_kD | apply z_kA)); exact BK174.out) hb); have n5_ := z_aM (z_kB (by (with_reducible repeat (first | apply z_kN | apply z_kD | apply z_kA)); exact BK185.out) hb); have n6_ := z_aM (z_bT (by repeat (first | (with_reducible first | exact HB.out | apply z_bA | apply z_bN | apply z_bD | refine z_bS ?_ GE173.out | refine z_bS ?_ GE174.out | refine z_bS ?_ GE185.out) | exact HB.out)) hb); have n7_ := z_aM (hbox); have n8_ := z_aM ((by rw [hg]; exact (z_bZ (by repeat (first | (with_reducible first | exact HB.out | apply z_bA | apply z_bN | apply z_bD | refine z_bS ?_ GE173.out | refine z_bS ?_ GE174.out | refine z_bS ?_ GE185.out) | exact HB.out))) : w.heap.size ≤ gb189)); have n9_ := z_aM ((by rw [hg]; exact (z_bZ (by repeat (first | (with_reducible first | exact HB.out | apply z_bA | apply z_bN | apply z_bD | refine z_bS ?_ GE173.out | refine z_bS ?_ GE174.out | refine z_bS ?_ GE185.out) | exact HB.out))) : w.heap.size ≤ gb189)); have n10_ := z_aM ((by rw [hg]; exact Nat.ne_of_lt (z_kL (by (with_reducible repeat (first | apply z_kN | apply z_kD | apply z_kA)); exact BK173.out)) : gb173 ≠ gb189)); have n11_ := z_aM ((by rw [hg]; exact Nat.ne_of_gt (z_kL (by (with_reducible repeat (first | apply z_kN | apply z_kD | apply z_kA)); exact BK173.out)) : gb189 ≠ gb173)); have n12_ := z_aM ((by rw [hg]; exact Nat.ne_of_lt (z_kL (by (with_reducible repeat (first | apply z_kN | apply z_kD | apply z_kA)); exact BK174.out)) : gb174 ≠ gb189)); have n13_ := z_aM ((by rw [hg]; exact Nat.ne_of_gt (z_kL (by (with_reducible repeat (first | apply z_kN | apply z_kD | apply z_kA)); exact BK174.out)) : gb189 ≠ gb174)); have n14_ := z_aM ((by rw [hg]; exact Nat.ne_of_lt (z_kL (by (with_reducible repeat (first | apply z_kN | apply z_kD | apply z_kA)); exact BK185.out)) : gb185 ≠ gb189)); have n15_ := z_aM ((by rw [hg]; exact Nat.ne_of_gt (z_kL (by (with_reducible repeat (first | apply z_kN | apply z_kD | apply z_kA)); exact BK185.out)) : gb189 ≠ gb185)); clear HO178; clear HO183; clear HO188; clear BK173; clear BK174; clear BK185; clear HB; have HO178 := n0_; have HO183 := n1_; have HO188 := n2_; have BK173 := n3_; have BK174 := n4_; have BK185 := n5_; have HB := n6_; have BK189 := n7_; have GW189 := n8_; have GE189 := n9_; have NB173_189 := n10_; have NB189_173 := n11_; have NB174_189 := n12_; have NB189_174 := n13_; have NB185_189 := n14_; have NB189_185 := n15_; clear n0_ n1_ n2_ n3_ n4_ n5_ n6_ n7_ n8_ n9_ n10_ n11_ n12_ n13_ n14_ n15_; clear hb hbox hg; obtain ⟨Ao37, co37, eo37⟩ := Kd.R_slice HO188.out; subst eo37; have hnb38 := NB189_173.out; have hnc38 := NB173_189.out; have hnb39 := NB189_174.out; have hnc39 := NB174_189.out; have hnb40 := NB189_185.out; have hnc40 := NB185_189.out; have hcz41_0 : w36.cell? ⟨gb189, 0, none⟩ = some (.slice none 0 0) := (z_kC BK189.out 0).trans rfl; have hfz41_0 := blk_frozen BK189.out 0))
  have n0_ : Aside0 (Kd.R (Kd.int .i64) 3 (w36.setCell ⟨gb189, 0, none⟩ (.slice Ao37 t186.length co37)) w.heap.size (fun k_ => some k_ ≠ (.slice Ao31 t181.length co31 : Value).ownBlock ∧ some k_ ≠ (.slice Ao37 t186.length co37 : Value).ownBlock) v177 t176) := ⟨by (with_reducible repeat (first | apply z_rA | apply z_rN | apply z_rD)); exact z_rM (Kd.R_far (p := ⟨gb189, 0, none⟩) (Kd.R_types HO178.out BK189.out (by decide)) (fun _ hk => hk.2) (.slice Ao37 t186.length co37)) (fun _ hk => ⟨hk.1.1, hk.1.2⟩)⟩
  have n1_ : Aside0 (Kd.R (Kd.int .i64) 3 (w36.setCell ⟨gb189, 0, none⟩ (.slice Ao37 t186.length co37)) w.heap.size (fun k_ => some k_ ≠ (v177 : Value).ownBlock ∧ some k_ ≠ (.slice Ao37 t186.length co37 : Value).ownBlock) (.slice Ao31 t181.length co31) t181) := ⟨by (with_reducible repeat (first | apply z_rA | apply z_rN | apply z_rD)); exact z_rM (Kd.R_far (p := ⟨gb189, 0, none⟩) (Kd.R_types HO183.out BK189.out (by decide)) (fun _ hk => hk.2) (.slice Ao37 t186.length co37)) (fun _ hk => ⟨hk.1.1, hk.1.2⟩)⟩
  have n2_ : Aside0 (Kd.R (Kd.int .i64) 3 (w36.setCell ⟨gb189, 0, none⟩ (.slice Ao37 t186.length co37)) w.heap.size (fun k_ => some k_ ≠ (v177 : Value).ownBlock ∧ some k_ ≠ (.slice Ao31 t181.length co31 : Value).ownBlock) (.slice Ao37 t186.length co37) t186) := ⟨by (with_reducible repeat (first | apply z_rA | apply z_rN | apply z_rD)); exact z_rM (Kd.R_far (p := ⟨gb189, 0, none⟩) (Kd.R_types HO188.out BK189.out (by decide)) (fun _ hk => hk.2) (.slice Ao37 t186.length co37)) (fun _ hk => ⟨hk.1.1.2, hk.1.2⟩)⟩
  have n3_ : Aside0 ((w36.setCell ⟨gb189, 0, none⟩ (.slice Ao37 t186.length co37)).heap[gb173]? = some (.cells #[.slice A0_0 l0_0.length c0_0] 41 (0, 0))) := ⟨by (with_reducible repeat (first | apply z_kN | apply z_kD | apply z_kA)); refine blk_far ?_ NB173_189.out _; (with_reducible repeat (first | apply z_kN | apply z_kD | apply z_kA)); exact BK173.out⟩
  have n4_ : Aside0 ((w36.setCell ⟨gb189, 0, none⟩ (.slice Ao37 t186.length co37)).heap[gb174]? = some (.cells #[.int .i64 a1_0, .int .i64 a1_1] 42 (0, 0))) := ⟨by (with_reducible repeat (first | apply z_kN | apply z_kD | apply z_kA)); refine blk_far ?_ NB174_189.out _; (with_reducible repeat (first | apply z_kN | apply z_kD | apply z_kA)); exact BK174.out⟩
  have n5_ : Aside0 ((w36.setCell ⟨gb189, 0, none⟩ (.slice Ao37 t186.length co37)).heap[gb185]? = some (.cells #[.slice Ao31 t181.length co31] 29 (0, 0))) := ⟨by (with_reducible repeat (first | apply z_kN | apply z_kD | apply z_kA)); refine blk_far ?_ NB185_189.out _; (with_reducible repeat (first | apply z_kN | apply z_kD | apply z_kA)); exact BK185.out⟩
  have n6_ : Aside0 ((w36.setCell ⟨gb189, 0, none⟩ (.slice Ao37 t186.length co37)).heap[gb189]? = some (.cells #[.slice Ao37 t186.length co37] 29 (0, 0))) := ⟨by (with_reducible repeat (first | apply z_kN | apply z_kD | apply z_kA)); refine blk_put (cs := #[.slice none 0 0]) ?_ 0 _ rfl; (with_reducible repeat (first | apply z_kN | apply z_kD | apply z_kA)); exact BK189.out⟩
  have n7_ : Aside0 (Below w.heap.size w (w36.setCell ⟨gb189, 0, none⟩ (.slice Ao37 t186.length co37))) := ⟨by repeat (first | (with_reducible first | exact HB.out | apply z_bA | apply z_bN | apply z_bD | refine z_bS ?_ GE173.out | refine z_bS ?_ GE174.out | refine z_bS ?_ GE185.out | refine z_bS ?_ GE189.out) | exact HB.out)⟩
  (try clear HO178)
  (try clear HO183)
  (try clear HO188)
  (try clear BK173)
  (try clear BK174)
  (try clear BK185)
  (try clear BK189)
  (try clear HB)
  generalize (w36.setCell ⟨gb189, 0, none⟩ (.slice Ao37 t186.length co37)) = w42 at n0_ n1_ n2_ n3_ n4_ n5_ n6_ n7_ ⊢
  have HO178 := n0_
  have HO183 := n1_
  have HO188 := n2_
  have BK173 := n3_
  have BK174 := n4_
  have BK185 := n5_
  have BK189 := n6_
  have HB := n7_
  clear n0_ n1_ n2_ n3_ n4_ n5_ n6_ n7_
  have n0_ := z_aM (z_rD HO178.out)
  have n1_ := z_aM (z_rD HO183.out)
  have n2_ := z_aM (z_rD HO188.out)
  have n3_ := z_aM (z_kD BK173.out)
  have n4_ := z_aM (z_kD BK174.out)
  have n5_ := z_aM (z_kD BK185.out)
  have n6_ := z_aM (z_kD BK189.out)
  have n7_ := z_aM (z_bD HB.out)
  clear HO178
  clear HO183
  clear HO188
  clear BK173
  clear BK174
  clear BK185
  clear BK189
  clear HB
  have HO178 := n0_
  have HO183 := n1_
  have HO188 := n2_
  have BK173 := n3_
  have BK174 := n4_
  have BK185 := n5_
  have BK189 := n6_
  have HB := n7_
  clear n0_ n1_ n2_ n3_ n4_ n5_ n6_ n7_
  refine start_ (n := 12) (S := fun w' => w'.cell? ⟨gb189, 0, none⟩ = some (.slice Ao37 t186.length co37) ∧ w'.cell? ⟨gb174, 0, none⟩ = some (.int .i64 a1_0) ∧ w'.cell? ⟨gb174, 1, none⟩ = some (.int .i64 a1_1)) (ds := []) #[false, false, false, false, false, false, false, false, false, false, false, false] (by kernel_rfl) rfl rfl ⟨(z_kC BK189.out 0).trans rfl, (z_kC BK174.out 0).trans rfl, (z_kC BK174.out 1).trans rfl⟩ (fun hHeld => ?_); refine with_tabW laws_FnExactStoreCell.tab7 laws_FnExactStoreCell.bits7 (fun HT_ HW_ => ?_)
  generalize w42.drew = w43 at HO178 HO183 HO188 BK173 BK174 BK185 BK189 HB hHeld ⊢
  refine pure_ (i := 3) (N := some 41) (v := ?_) (a' := ?_) #[false, false, false, true, false, false, false, false, false, false, false, false] rfl rfl (any_of HT_.out (by kernel_rfl)) (fun _ _ _ h => h) (Or.inl ⟨by rfl, ?_⟩) ?_ ?_
  rotate_left
  ·intro w'
   go_simp
   with_reducible rfl
  rotate_left
  ·simp only [Act.put, z_lA, z_lZ, z_lS, i64_w, i32_w]
   rfl
  refine pure_ (i := 4) (N := some 42) (v := ?_) (a' := ?_) #[false, false, false, true, true, false, false, false, false, false, false, false] rfl rfl (any_of HT_.out (by kernel_rfl)) (fun _ _ _ h => h) (Or.inl ⟨by rfl, ?_⟩) ?_ ?_
  rotate_left
  ·intro w'
   go_simp
   with_reducible rfl
  rotate_left
  ·simp only [Act.put, z_lA, z_lZ, z_lS, i64_w, i32_w]
   rfl
  refine take_ (i := 0) (N := some 38) (v := ?_) (a' := ?_) #[true, false, false, true, true, false, false, false, false, false, false, false] rfl rfl (take_ofW HT_.out HW_.out (by kernel_rfl)) (fun _ _ _ h => h) (Or.inl ⟨by rfl, ?_⟩) hHeld ?_ ?_
  rotate_left
  ·rintro w' ⟨s0, s1, s2⟩
   go_simp
   with_reducible rfl
  rotate_left
  ·simp only [Act.put, z_lA, z_lZ, z_lS, i64_w, i32_w]
   rfl
  refine take_ (i := 1) (N := some 39) (v := ?_) (a' := ?_) #[true, true, false, true, true, false, false, false, false, false, false, false] rfl rfl (take_ofW HT_.out HW_.out (by kernel_rfl)) (fun _ _ _ h => h) (Or.inl ⟨by rfl, ?_⟩) hHeld ?_ ?_
  rotate_left
  ·rintro w' ⟨s0, s1, s2⟩
   go_simp
   with_reducible rfl
  rotate_left
  ·simp only [Act.put, z_lA, z_lZ, z_lS, i64_w, i32_w]
   rfl
  refine join_ (σ := Value × Nat) 2 #[true, true, true, true, true, true, true, true, true, true, false, false] (fun s_ => [(40, .agg #[.int .i64 t190, .int .i64 t191]), (43, .tuple #[.agg #[s_.1], .bool t195]), (13, .pointer (some ⟨s_.2, 0, none⟩)), (37, .tuple #[.agg #[s_.1], .bool t195]), (44, .agg #[s_.1]), (45, .bool t195)]) (fun s_ w' => (w'.cell? ⟨gb189, 0, none⟩ = some (.slice Ao37 t186.length co37) ∧ w'.cell? ⟨gb174, 0, none⟩ = some (.int .i64 a1_0) ∧ w'.cell? ⟨gb174, 1, none⟩ = some (.int .i64 a1_1)) ∧ (Kd.R (Kd.int .i64) 3 w' w.heap.size (fun k_ => some k_ ≠ (.slice Ao31 t181.length co31 : Value).ownBlock ∧ some k_ ≠ (.slice Ao37 t186.length co37 : Value).ownBlock ∧ some k_ ≠ (s_.1 : Value).ownBlock) v177 t176) ∧ (Kd.R (Kd.int .i64) 3 w' w.heap.size (fun k_ => some k_ ≠ (v177 : Value).ownBlock ∧ some k_ ≠ (.slice Ao37 t186.length co37 : Value).ownBlock ∧ some k_ ≠ (s_.1 : Value).ownBlock) (.slice Ao31 t181.length co31) t181) ∧ (Kd.R (Kd.int .i64) 3 w' w.heap.size (fun k_ => some k_ ≠ (v177 : Value).ownBlock ∧ some k_ ≠ (.slice Ao31 t181.length co31 : Value).ownBlock ∧ some k_ ≠ (s_.1 : Value).ownBlock) (.slice Ao37 t186.length co37) t186) ∧ (Kd.R (Kd.int .i64) 3 w' w.heap.size (fun k_ => some k_ ≠ (v177 : Value).ownBlock ∧ some k_ ≠ (.slice Ao31 t181.length co31 : Value).ownBlock ∧ some k_ ≠ (.slice Ao37 t186.length co37 : Value).ownBlock) s_.1 t192) ∧ (w'.heap[gb173]? = some (.cells #[.slice A0_0 l0_0.length c0_0] 41 (0, 0))) ∧ (w'.heap[gb174]? = some (.cells #[.int .i64 a1_0, .int .i64 a1_1] 42 (0, 0))) ∧ (w'.heap[gb185]? = some (.cells #[.slice Ao31 t181.length co31] 29 (0, 0))) ∧ (w'.heap[gb189]? = some (.cells #[.slice Ao37 t186.length co37] 29 (0, 0))) ∧ (w'.heap[s_.2]? = some (.cells #[.slice none 0 0] 29 (0, 0))) ∧ (w.heap.size ≤ s_.2) ∧ (w.heap.size ≤ s_.2) ∧ (gb173 ≠ s_.2) ∧ (s_.2 ≠ gb173) ∧ (gb174 ≠ s_.2) ∧ (s_.2 ≠ gb174) ∧ (gb185 ≠ s_.2) ∧ (s_.2 ≠ gb185) ∧ (gb189 ≠ s_.2) ∧ (s_.2 ≠ gb189) ∧ (Below w.heap.size w w')) ?_ ?_
  rotate_left
  ·intro hCont
   refine two_ (i := 2) (j := 9) (Ni := some 40) (Nj := some 13) #[true, true, true, true, true, false, false, false, false, false, false, false] #[true, true, false, true, true, false, false, false, false, true, false, false] rfl rfl rfl rfl (two_of HT_.out (by kernel_rfl)) (by decide) (by decide) (fun K hK => ?_) (fun K hK => ?_)
   ·skip
    refine goes_ Try.func27 (by kernel_rfl) rfl #[.agg #[.int .i64 a1_0, .int .i64 a1_1]] (by rfl) rfl rfl (by (try simp only [List.map_toArray, List.map_cons, List.map_nil]); first | done | rfl | (simp only [List.length_drop, List.length_take]; rfl)) ?_
    with_reducible refine (laws_toRegion.calls a1_0 a1_1 t190 t191 _ A16.out).mono ?_
    rintro e w44 ⟨rfl, hb⟩
    refine ⟨_, rfl, ?_⟩
    have n0_ := z_aM (z_rB (by (with_reducible repeat (first | apply z_rA | apply z_rN | apply z_rD)); exact HO178.out) hb)
    have n1_ := z_aM (z_rB (by (with_reducible repeat (first | apply z_rA | apply z_rN | apply z_rD)); exact HO183.out) hb)
    have n2_ := z_aM (z_rB (by (with_reducible repeat (first | apply z_rA | apply z_rN | apply z_rD)); exact HO188.out) hb)
    have n3_ := z_aM (z_kB (by (with_reducible repeat (first | apply z_kN | apply z_kD | apply z_kA)); exact BK173.out) hb)
    have n4_ := z_aM (z_kB (by (with_reducible repeat (first | apply z_kN | apply z_kD | apply z_kA)); exact BK174.out) hb)
    have n5_ := z_aM (z_kB (by (with_reducible repeat (first | apply z_kN | apply z_kD | apply z_kA)); exact BK185.out) hb)
    have n6_ := z_aM (z_kB (by (with_reducible repeat (first | apply z_kN | apply z_kD | apply z_kA)); exact BK189.out) hb)
    have n7_ := z_aM (z_bT (by repeat (first | (with_reducible first | exact HB.out | apply z_bA | apply z_bN | apply z_bD | refine z_bS ?_ GE173.out | refine z_bS ?_ GE174.out | refine z_bS ?_ GE185.out | refine z_bS ?_ GE189.out) | exact HB.out)) hb)
    clear HO178
    clear HO183
    clear HO188
    clear BK173
    clear BK174
    clear BK185
    clear BK189
    clear HB
    have HO178 := n0_
    have HO183 := n1_
    have HO188 := n2_
    have BK173 := n3_
    have BK174 := n4_
    have BK185 := n5_
    have BK189 := n6_
    have HB := n7_
    clear n0_ n1_ n2_ n3_ n4_ n5_ n6_ n7_
    (try clear hb)
    (try clear hb2)
    (try clear hk)
    (try clear hi)
    refine hK.out _ _ ⟨(z_kC BK189.out 0).trans rfl, (z_kC BK174.out 0).trans rfl, (z_kC BK174.out 1).trans rfl⟩ (fun hHeld => ?_)
    clear hK K
    refine norm_ (a' := ?_) ?_ ?_
    rotate_left
    ·show Act.put _ (some 40) _ = _
     simp only [Act.put, z_lA, z_lZ, z_lS, i64_w, i32_w]
     rfl
    refine two_ (i := 5) (j := 9) (Ni := some 43) (Nj := some 13) #[true, true, true, true, true, true, false, false, false, false, false, false] #[true, true, true, true, true, false, false, false, false, true, false, false] rfl rfl rfl rfl (two_of HT_.out (by kernel_rfl)) (by decide) (by decide) (fun K hK => ?_) (fun K hK => ?_)
    ·skip
     refine goes_ Try.func17 (by kernel_rfl) rfl #[.agg #[.slice Ao37 t186.length co37], .agg #[.int .i64 t190, .int .i64 t191], .int .i64 a2, .int .i64 a3] (by rfl) rfl rfl (by (try simp only [List.map_toArray, List.map_cons, List.map_nil]); first | done | rfl | (simp only [List.length_drop, List.length_take]; rfl)) ?_
     with_reducible refine (impl_StoreCell.calls _ _ t186 t190 t191 a2 a3 t192 t195 _ ?side1 ?side2 A17.out).mono ?_
     (case side1 => repeat (first | exact (Kd.R_reads' HO188.out).2.2 | (with_reducible refine Kd.C_alloc ?_ _) | (with_reducible refine Kd.C_drewN ?_ _) | (with_reducible refine Kd.C_drew ?_)))
     (case side2 => exact (Kd.R_reads' HO188.out).2.1)
     rintro e w45 ⟨v193, rfl, ho0, hb⟩
     refine ⟨_, rfl, ?_⟩
     have n0_ := z_aM (Kd.R_elder' (by (with_reducible repeat (first | apply z_rA | apply z_rN | apply z_rD)); exact HO178.out) (Kd.R_base ho0) hb)
     have n1_ := z_aM (Kd.R_elder' (by (with_reducible repeat (first | apply z_rA | apply z_rN | apply z_rD)); exact HO183.out) (Kd.R_base ho0) hb)
     have n2_ := z_aM (Kd.R_elder' (by (with_reducible repeat (first | apply z_rA | apply z_rN | apply z_rD)); exact HO188.out) (Kd.R_base ho0) hb)
     have n3_ := z_aM (Kd.R_lower (Kd.R_new' (Kd.R_new' (Kd.R_new' ho0 (z_rL (by (with_reducible repeat (first | apply z_rA | apply z_rN | apply z_rD)); exact HO178.out))) (z_rL (by (with_reducible repeat (first | apply z_rA | apply z_rN | apply z_rD)); exact HO183.out))) (z_rL (by (with_reducible repeat (first | apply z_rA | apply z_rN | apply z_rD)); exact HO188.out))) (z_bZ (by repeat (first | (with_reducible first | exact HB.out | apply z_bA | apply z_bN | apply z_bD | refine z_bS ?_ GE173.out | refine z_bS ?_ GE174.out | refine z_bS ?_ GE185.out | refine z_bS ?_ GE189.out) | exact HB.out))))
     have n4_ := z_aM (z_kB (by (with_reducible repeat (first | apply z_kN | apply z_kD | apply z_kA)); exact BK173.out) hb)
     have n5_ := z_aM (z_kB (by (with_reducible repeat (first | apply z_kN | apply z_kD | apply z_kA)); exact BK174.out) hb)
     have n6_ := z_aM (z_kB (by (with_reducible repeat (first | apply z_kN | apply z_kD | apply z_kA)); exact BK185.out) hb)
     have n7_ := z_aM (z_kB (by (with_reducible repeat (first | apply z_kN | apply z_kD | apply z_kA)); exact BK189.out) hb)
     have n8_ := z_aM (z_bT (by repeat (first | (with_reducible first | exact HB.out | apply z_bA | apply z_bN | apply z_bD | refine z_bS ?_ GE173.out | refine z_bS ?_ GE174.out | refine z_bS ?_ GE185.out | refine z_bS ?_ GE189.out) | exact HB.out)) hb)
     clear HO178
     clear HO183
     clear HO188
     clear BK173
     clear BK174
     clear BK185
     clear BK189
     clear HB
     have HO178 := n0_
     have HO183 := n1_
     have HO188 := n2_
     have HO194 := n3_
     have BK173 := n4_
     have BK174 := n5_
     have BK185 := n6_
     have BK189 := n7_
     have HB := n8_
     clear n0_ n1_ n2_ n3_ n4_ n5_ n6_ n7_ n8_
     (try clear hb)
     (try clear hb2)
     (try clear hk)
     (try clear hi)
     (try clear ho0)
     refine hK.out _ _ ⟨(z_kC BK189.out 0).trans rfl, (z_kC BK174.out 0).trans rfl, (z_kC BK174.out 1).trans rfl⟩ (fun hHeld => ?_)
     clear hK K
     refine norm_ (a' := ?_) ?_ ?_
     rotate_left
     ·show Act.put _ (some 43) _ = _
      simp only [Act.put, z_lA, z_lZ, z_lS, i64_w, i32_w]
      rfl
     refine pure_ (i := 6) (N := some 37) (v := ?_) (a' := ?_) #[true, true, true, true, true, true, true, false, false, false, false, false] rfl rfl (any_of HT_.out (by kernel_rfl)) (fun _ _ _ h => h) (Or.inl ⟨by rfl, ?_⟩) ?_ ?_
     rotate_left
     ·intro w'
      go_simp
      with_reducible rfl
     rotate_left
     ·simp only [Act.put, z_lA, z_lZ, z_lS, i64_w, i32_w]
      rfl
     refine pure_ (i := 7) (N := some 44) (v := ?_) (a' := ?_) #[true, true, true, true, true, true, true, true, false, false, false, false] rfl rfl (any_of HT_.out (by kernel_rfl)) (fun _ _ _ h => h) (Or.inl ⟨by rfl, ?_⟩) ?_ ?_
     rotate_left
     ·intro w'
      go_simp
      with_reducible rfl
     rotate_left
     ·simp only [Act.put, z_lA, z_lZ, z_lS, i64_w, i32_w]
      rfl
     refine pure_ (i := 8) (N := some 45) (v := ?_) (a' := ?_) #[true, true, true, true, true, true, true, true, true, false, false, false] rfl rfl (any_of HT_.out (by kernel_rfl)) (fun _ _ _ h => h) (Or.inl ⟨by rfl, ?_⟩) ?_ ?_
     rotate_left
     ·intro w'
      go_simp
      with_reducible rfl
     rotate_left
     ·simp only [Act.put, z_lA, z_lZ, z_lS, i64_w, i32_w]
      rfl
     refine one_ (i := 9) (N := some 13) #[true, true, true, true, true, true, true, true, true, true, false, false] rfl rfl (one_of HT_.out (by kernel_rfl)) (by decide) (fun K hK => ?_)
     refine box_step ?hg (N := 13) ?hd (cs := #[.slice none 0 0]) (t := 29) ?hr ?_; (case hd => rfl); (case hg => rfl); (case hr => first | (go_simp; done) | (go_simp; rfl))
     intro gb196 hg w46 hbox hb
     have n0_ := z_aM (z_rB (by (with_reducible repeat (first | apply z_rA | apply z_rN | apply z_rD)); exact HO178.out) hb)
     have n1_ := z_aM (z_rB (by (with_reducible repeat (first | apply z_rA | apply z_rN | apply z_rD)); exact HO183.out) hb)
     have n2_ := z_aM (z_rB (by (with_reducible repeat (first | apply z_rA | apply z_rN | apply z_rD)); exact HO188.out) hb)
     have n3_ := z_aM (z_rB (by (with_reducible repeat (first | apply z_rA | apply z_rN | apply z_rD)); exact HO194.out) hb)
     have n4_ := z_aM (z_kB (by (with_reducible repeat (first | apply z_kN | apply z_kD | apply z_kA)); exact BK173.out) hb)
     have n5_ := z_aM (z_kB (by (with_reducible repeat (first | apply z_kN | apply z_kD | apply z_kA)); exact BK174.out) hb)
     have n6_ := z_aM (z_kB (by (with_reducible repeat (first | apply z_kN | apply z_kD | apply z_kA)); exact BK185.out) hb)
     have n7_ := z_aM (z_kB (by (with_reducible repeat (first | apply z_kN | apply z_kD | apply z_kA)); exact BK189.out) hb)
     have n8_ := z_aM (z_bT (by repeat (first | (with_reducible first | exact HB.out | apply z_bA | apply z_bN | apply z_bD | refine z_bS ?_ GE173.out | refine z_bS ?_ GE174.out | refine z_bS ?_ GE185.out | refine z_bS ?_ GE189.out) | exact HB.out)) hb)
     have n9_ := z_aM (hbox)
     have n10_ := z_aM ((by rw [hg]; exact (z_bZ (by repeat (first | (with_reducible first | exact HB.out | apply z_bA | apply z_bN | apply z_bD | refine z_bS ?_ GE173.out | refine z_bS ?_ GE174.out | refine z_bS ?_ GE185.out | refine z_bS ?_ GE189.out) | exact HB.out))) : w.heap.size ≤ gb196))
     have n11_ := z_aM ((by rw [hg]; exact (z_bZ (by repeat (first | (with_reducible first | exact HB.out | apply z_bA | apply z_bN | apply z_bD | refine z_bS ?_ GE173.out | refine z_bS ?_ GE174.out | refine z_bS ?_ GE185.out | refine z_bS ?_ GE189.out) | exact HB.out))) : w.heap.size ≤ gb196))
     have n12_ := z_aM ((by rw [hg]; exact Nat.ne_of_lt (z_kL (by (with_reducible repeat (first | apply z_kN | apply z_kD | apply z_kA)); exact BK173.out)) : gb173 ≠ gb196))
     have n13_ := z_aM ((by rw [hg]; exact Nat.ne_of_gt (z_kL (by (with_reducible repeat (first | apply z_kN | apply z_kD | apply z_kA)); exact BK173.out)) : gb196 ≠ gb173))
     have n14_ := z_aM ((by rw [hg]; exact Nat.ne_of_lt (z_kL (by (with_reducible repeat (first | apply z_kN | apply z_kD | apply z_kA)); exact BK174.out)) : gb174 ≠ gb196))
     have n15_ := z_aM ((by rw [hg]; exact Nat.ne_of_gt (z_kL (by (with_reducible repeat (first | apply z_kN | apply z_kD | apply z_kA)); exact BK174.out)) : gb196 ≠ gb174))
     have n16_ := z_aM ((by rw [hg]; exact Nat.ne_of_lt (z_kL (by (with_reducible repeat (first | apply z_kN | apply z_kD | apply z_kA)); exact BK185.out)) : gb185 ≠ gb196))
     have n17_ := z_aM ((by rw [hg]; exact Nat.ne_of_gt (z_kL (by (with_reducible repeat (first | apply z_kN | apply z_kD | apply z_kA)); exact BK185.out)) : gb196 ≠ gb185))
     have n18_ := z_aM ((by rw [hg]; exact Nat.ne_of_lt (z_kL (by (with_reducible repeat (first | apply z_kN | apply z_kD | apply z_kA)); exact BK189.out)) : gb189 ≠ gb196))
     have n19_ := z_aM ((by rw [hg]; exact Nat.ne_of_gt (z_kL (by (with_reducible repeat (first | apply z_kN | apply z_kD | apply z_kA)); exact BK189.out)) : gb196 ≠ gb189))
     clear HO178
     clear HO183
     clear HO188
     clear HO194
     clear BK173
     clear BK174
     clear BK185
     clear BK189
     clear HB
     have HO178 := n0_
     have HO183 := n1_
     have HO188 := n2_
     have HO194 := n3_
     have BK173 := n4_
     have BK174 := n5_
     have BK185 := n6_
     have BK189 := n7_
     have HB := n8_
     have BK196 := n9_
     have GW196 := n10_
     have GE196 := n11_
     have NB173_196 := n12_
     have NB196_173 := n13_
     have NB174_196 := n14_
     have NB196_174 := n15_
     have NB185_196 := n16_
     have NB196_185 := n17_
     have NB189_196 := n18_
     have NB196_189 := n19_
     clear n0_ n1_ n2_ n3_ n4_ n5_ n6_ n7_ n8_ n9_ n10_ n11_ n12_ n13_ n14_ n15_ n16_ n17_ n18_ n19_
     clear hb hbox hg
     refine hK.out _ _ ⟨(z_kC BK189.out 0).trans rfl, (z_kC BK174.out 0).trans rfl, (z_kC BK174.out 1).trans rfl⟩ (fun hHeld => ?_)
     clear hK K
     refine norm_ (a' := ?_) ?_ ?_
     rotate_left
     ·show Act.put _ (some 13) _ = _
      simp only [Act.put, z_lA, z_lZ, z_lS, i64_w, i32_w]
      rfl
     exact norm_ (by simp only [putAll, Act.put, z_lA, z_lZ, z_lS]) (hCont (v193, gb196) _ ⟨hHeld, (by (with_reducible repeat (first | apply z_rA | apply z_rN | apply z_rD)); exact z_rM HO178.out (fun _ hk => ⟨hk.1.1, ⟨hk.1.2, hk.2⟩⟩)), (by (with_reducible repeat (first | apply z_rA | apply z_rN | apply z_rD)); exact z_rM HO183.out (fun _ hk => ⟨hk.1.1, ⟨hk.1.2, hk.2⟩⟩)), (by (with_reducible repeat (first | apply z_rA | apply z_rN | apply z_rD)); exact z_rM HO188.out (fun _ hk => ⟨hk.1.1, ⟨hk.1.2, hk.2⟩⟩)), (by (with_reducible repeat (first | apply z_rA | apply z_rN | apply z_rD)); exact z_rM HO194.out (fun _ hk => ⟨hk.1.1.2, ⟨hk.1.2, hk.2⟩⟩)), (by (with_reducible repeat (first | apply z_kN | apply z_kD | apply z_kA)); exact BK173.out), (by (with_reducible repeat (first | apply z_kN | apply z_kD | apply z_kA)); exact BK174.out), (by (with_reducible repeat (first | apply z_kN | apply z_kD | apply z_kA)); exact BK185.out), (by (with_reducible repeat (first | apply z_kN | apply z_kD | apply z_kA)); exact BK189.out), (by (with_reducible repeat (first | apply z_kN | apply z_kD | apply z_kA)); exact BK196.out), GW196.out, GE196.out, NB173_196.out, NB196_173.out, NB174_196.out, NB196_174.out, NB185_196.out, NB196_185.out, NB189_196.out, NB196_189.out, (by repeat (first | (with_reducible first | exact HB.out | apply z_bA | apply z_bN | apply z_bD | refine z_bS ?_ GE173.out | refine z_bS ?_ GE174.out | refine z_bS ?_ GE185.out | refine z_bS ?_ GE189.out | refine z_bS ?_ GE196.out) | exact HB.out))⟩)
    ·skip
     refine box_step ?hg (N := 13) ?hd (cs := #[.slice none 0 0]) (t := 29) ?hr ?_; (case hd => rfl); (case hg => rfl); (case hr => first | (go_simp; done) | (go_simp; rfl))
     intro gb196 hg w45 hbox hb
     have n0_ := z_aM (z_rB (by (with_reducible repeat (first | apply z_rA | apply z_rN | apply z_rD)); exact HO178.out) hb)
     have n1_ := z_aM (z_rB (by (with_reducible repeat (first | apply z_rA | apply z_rN | apply z_rD)); exact HO183.out) hb)
     have n2_ := z_aM (z_rB (by (with_reducible repeat (first | apply z_rA | apply z_rN | apply z_rD)); exact HO188.out) hb)
     have n3_ := z_aM (z_kB (by (with_reducible repeat (first | apply z_kN | apply z_kD | apply z_kA)); exact BK173.out) hb)
     have n4_ := z_aM (z_kB (by (with_reducible repeat (first | apply z_kN | apply z_kD | apply z_kA)); exact BK174.out) hb)
     have n5_ := z_aM (z_kB (by (with_reducible repeat (first | apply z_kN | apply z_kD | apply z_kA)); exact BK185.out) hb)
     have n6_ := z_aM (z_kB (by (with_reducible repeat (first | apply z_kN | apply z_kD | apply z_kA)); exact BK189.out) hb)
     have n7_ := z_aM (z_bT (by repeat (first | (with_reducible first | exact HB.out | apply z_bA | apply z_bN | apply z_bD | refine z_bS ?_ GE173.out | refine z_bS ?_ GE174.out | refine z_bS ?_ GE185.out | refine z_bS ?_ GE189.out) | exact HB.out)) hb)
     have n8_ := z_aM (hbox)
     have n9_ := z_aM ((by rw [hg]; exact (z_bZ (by repeat (first | (with_reducible first | exact HB.out | apply z_bA | apply z_bN | apply z_bD | refine z_bS ?_ GE173.out | refine z_bS ?_ GE174.out | refine z_bS ?_ GE185.out | refine z_bS ?_ GE189.out) | exact HB.out))) : w.heap.size ≤ gb196))
     have n10_ := z_aM ((by rw [hg]; exact (z_bZ (by repeat (first | (with_reducible first | exact HB.out | apply z_bA | apply z_bN | apply z_bD | refine z_bS ?_ GE173.out | refine z_bS ?_ GE174.out | refine z_bS ?_ GE185.out | refine z_bS ?_ GE189.out) | exact HB.out))) : w.heap.size ≤ gb196))
     have n11_ := z_aM ((by rw [hg]; exact Nat.ne_of_lt (z_kL (by (with_reducible repeat (first | apply z_kN | apply z_kD | apply z_kA)); exact BK173.out)) : gb173 ≠ gb196))
     have n12_ := z_aM ((by rw [hg]; exact Nat.ne_of_gt (z_kL (by (with_reducible repeat (first | apply z_kN | apply z_kD | apply z_kA)); exact BK173.out)) : gb196 ≠ gb173))
     have n13_ := z_aM ((by rw [hg]; exact Nat.ne_of_lt (z_kL (by (with_reducible repeat (first | apply z_kN | apply z_kD | apply z_kA)); exact BK174.out)) : gb174 ≠ gb196))
     have n14_ := z_aM ((by rw [hg]; exact Nat.ne_of_gt (z_kL (by (with_reducible repeat (first | apply z_kN | apply z_kD | apply z_kA)); exact BK174.out)) : gb196 ≠ gb174))
     have n15_ := z_aM ((by rw [hg]; exact Nat.ne_of_lt (z_kL (by (with_reducible repeat (first | apply z_kN | apply z_kD | apply z_kA)); exact BK185.out)) : gb185 ≠ gb196))
     have n16_ := z_aM ((by rw [hg]; exact Nat.ne_of_gt (z_kL (by (with_reducible repeat (first | apply z_kN | apply z_kD | apply z_kA)); exact BK185.out)) : gb196 ≠ gb185))
     have n17_ := z_aM ((by rw [hg]; exact Nat.ne_of_lt (z_kL (by (with_reducible repeat (first | apply z_kN | apply z_kD | apply z_kA)); exact BK189.out)) : gb189 ≠ gb196))
     have n18_ := z_aM ((by rw [hg]; exact Nat.ne_of_gt (z_kL (by (with_reducible repeat (first | apply z_kN | apply z_kD | apply z_kA)); exact BK189.out)) : gb196 ≠ gb189))
     clear HO178
     clear HO183
     clear HO188
     clear BK173
     clear BK174
     clear BK185
     clear BK189
     clear HB
     have HO178 := n0_
     have HO183 := n1_
     have HO188 := n2_
     have BK173 := n3_
     have BK174 := n4_
     have BK185 := n5_
     have BK189 := n6_
     have HB := n7_
     have BK196 := n8_
     have GW196 := n9_
     have GE196 := n10_
     have NB173_196 := n11_
     have NB196_173 := n12_
     have NB174_196 := n13_
     have NB196_174 := n14_
     have NB185_196 := n15_
     have NB196_185 := n16_
     have NB189_196 := n17_
     have NB196_189 := n18_
     clear n0_ n1_ n2_ n3_ n4_ n5_ n6_ n7_ n8_ n9_ n10_ n11_ n12_ n13_ n14_ n15_ n16_ n17_ n18_
     clear hb hbox hg
     refine hK.out _ _ ⟨(z_kC BK189.out 0).trans rfl, (z_kC BK174.out 0).trans rfl, (z_kC BK174.out 1).trans rfl⟩ (fun hHeld => ?_)
     clear hK K
     refine norm_ (a' := ?_) ?_ ?_
     rotate_left
     ·show Act.put _ (some 13) _ = _
      simp only [Act.put, z_lA, z_lZ, z_lS, i64_w, i32_w]
      rfl
     refine one_ (i := 5) (N := some 43) #[true, true, true, true, true, true, false, false, false, true, false, false] rfl rfl (one_of HT_.out (by kernel_rfl)) (by decide) (fun K hK => ?_)
     refine goes_ Try.func17 (by kernel_rfl) rfl #[.agg #[.slice Ao37 t186.length co37], .agg #[.int .i64 t190, .int .i64 t191], .int .i64 a2, .int .i64 a3] (by rfl) rfl rfl (by (try simp only [List.map_toArray, List.map_cons, List.map_nil]); first | done | rfl | (simp only [List.length_drop, List.length_take]; rfl)) ?_
     with_reducible refine (impl_StoreCell.calls _ _ t186 t190 t191 a2 a3 t192 t195 _ ?side1 ?side2 A17.out).mono ?_
     (case side1 => repeat (first | exact (Kd.R_reads' HO188.out).2.2 | (with_reducible refine Kd.C_alloc ?_ _) | (with_reducible refine Kd.C_drewN ?_ _) | (with_reducible refine Kd.C_drew ?_)))
     (case side2 => exact (Kd.R_reads' HO188.out).2.1)
     rintro e w46 ⟨v193, rfl, ho0, hb⟩
     refine ⟨_, rfl, ?_⟩
     have n0_ := z_aM (Kd.R_elder' (by (with_reducible repeat (first | apply z_rA | apply z_rN | apply z_rD)); exact HO178.out) (Kd.R_base ho0) hb)
     have n1_ := z_aM (Kd.R_elder' (by (with_reducible repeat (first | apply z_rA | apply z_rN | apply z_rD)); exact HO183.out) (Kd.R_base ho0) hb)
     have n2_ := z_aM (Kd.R_elder' (by (with_reducible repeat (first | apply z_rA | apply z_rN | apply z_rD)); exact HO188.out) (Kd.R_base ho0) hb)
     have n3_ := z_aM (Kd.R_lower (Kd.R_new' (Kd.R_new' (Kd.R_new' ho0 (z_rL (by (with_reducible repeat (first | apply z_rA | apply z_rN | apply z_rD)); exact HO178.out))) (z_rL (by (with_reducible repeat (first | apply z_rA | apply z_rN | apply z_rD)); exact HO183.out))) (z_rL (by (with_reducible repeat (first | apply z_rA | apply z_rN | apply z_rD)); exact HO188.out))) (z_bZ (by repeat (first | (with_reducible first | exact HB.out | apply z_bA | apply z_bN | apply z_bD | refine z_bS ?_ GE173.out | refine z_bS ?_ GE174.out | refine z_bS ?_ GE185.out | refine z_bS ?_ GE189.out | refine z_bS ?_ GE196.out) | exact HB.out))))
     have n4_ := z_aM (z_kB (by (with_reducible repeat (first | apply z_kN | apply z_kD | apply z_kA)); exact BK173.out) hb)
     have n5_ := z_aM (z_kB (by (with_reducible repeat (first | apply z_kN | apply z_kD | apply z_kA)); exact BK174.out) hb)
     have n6_ := z_aM (z_kB (by (with_reducible repeat (first | apply z_kN | apply z_kD | apply z_kA)); exact BK185.out) hb)
     have n7_ := z_aM (z_kB (by (with_reducible repeat (first | apply z_kN | apply z_kD | apply z_kA)); exact BK189.out) hb)
     have n8_ := z_aM (z_kB (by (with_reducible repeat (first | apply z_kN | apply z_kD | apply z_kA)); exact BK196.out) hb)
     have n9_ := z_aM (z_bT (by repeat (first | (with_reducible first | exact HB.out | apply z_bA | apply z_bN | apply z_bD | refine z_bS ?_ GE173.out | refine z_bS ?_ GE174.out | refine z_bS ?_ GE185.out | refine z_bS ?_ GE189.out | refine z_bS ?_ GE196.out) | exact HB.out)) hb)
     clear HO178
     clear HO183
     clear HO188
     clear BK173
     clear BK174
     clear BK185
     clear BK189
     clear BK196
     clear HB
     have HO178 := n0_
     have HO183 := n1_
     have HO188 := n2_
     have HO194 := n3_
     have BK173 := n4_
     have BK174 := n5_
     have BK185 := n6_
     have BK189 := n7_
     have BK196 := n8_
     have HB := n9_
     clear n0_ n1_ n2_ n3_ n4_ n5_ n6_ n7_ n8_ n9_
     (try clear hb)
     (try clear hb2)
     (try clear hk)
     (try clear hi)
     (try clear ho0)
     refine hK.out _ _ ⟨(z_kC BK189.out 0).trans rfl, (z_kC BK174.out 0).trans rfl, (z_kC BK174.out 1).trans rfl⟩ (fun hHeld => ?_)
     clear hK K
     refine norm_ (a' := ?_) ?_ ?_
     rotate_left
     ·show Act.put _ (some 43) _ = _
      simp only [Act.put, z_lA, z_lZ, z_lS, i64_w, i32_w]
      rfl
     refine pure_ (i := 6) (N := some 37) (v := ?_) (a' := ?_) #[true, true, true, true, true, true, true, false, false, true, false, false] rfl rfl (any_of HT_.out (by kernel_rfl)) (fun _ _ _ h => h) (Or.inl ⟨by rfl, ?_⟩) ?_ ?_
     rotate_left
     ·intro w'
      go_simp
      with_reducible rfl
     rotate_left
     ·simp only [Act.put, z_lA, z_lZ, z_lS, i64_w, i32_w]
      rfl
     refine pure_ (i := 7) (N := some 44) (v := ?_) (a' := ?_) #[true, true, true, true, true, true, true, true, false, true, false, false] rfl rfl (any_of HT_.out (by kernel_rfl)) (fun _ _ _ h => h) (Or.inl ⟨by rfl, ?_⟩) ?_ ?_
     rotate_left
     ·intro w'
      go_simp
      with_reducible rfl
     rotate_left
     ·simp only [Act.put, z_lA, z_lZ, z_lS, i64_w, i32_w]
      rfl
     refine pure_ (i := 8) (N := some 45) (v := ?_) (a' := ?_) #[true, true, true, true, true, true, true, true, true, true, false, false] rfl rfl (any_of HT_.out (by kernel_rfl)) (fun _ _ _ h => h) (Or.inl ⟨by rfl, ?_⟩) ?_ ?_
     rotate_left
     ·intro w'
      go_simp
      with_reducible rfl
     rotate_left
     ·simp only [Act.put, z_lA, z_lZ, z_lS, i64_w, i32_w]
      rfl
     exact norm_ (by simp only [putAll, Act.put, z_lA, z_lZ, z_lS]) (hCont (v193, gb196) _ ⟨hHeld, (by (with_reducible repeat (first | apply z_rA | apply z_rN | apply z_rD)); exact z_rM HO178.out (fun _ hk => ⟨hk.1.1, ⟨hk.1.2, hk.2⟩⟩)), (by (with_reducible repeat (first | apply z_rA | apply z_rN | apply z_rD)); exact z_rM HO183.out (fun _ hk => ⟨hk.1.1, ⟨hk.1.2, hk.2⟩⟩)), (by (with_reducible repeat (first | apply z_rA | apply z_rN | apply z_rD)); exact z_rM HO188.out (fun _ hk => ⟨hk.1.1, ⟨hk.1.2, hk.2⟩⟩)), (by (with_reducible repeat (first | apply z_rA | apply z_rN | apply z_rD)); exact z_rM HO194.out (fun _ hk => ⟨hk.1.1.2, ⟨hk.1.2, hk.2⟩⟩)), (by (with_reducible repeat (first | apply z_kN | apply z_kD | apply z_kA)); exact BK173.out), (by (with_reducible repeat (first | apply z_kN | apply z_kD | apply z_kA)); exact BK174.out), (by (with_reducible repeat (first | apply z_kN | apply z_kD | apply z_kA)); exact BK185.out), (by (with_reducible repeat (first | apply z_kN | apply z_kD | apply z_kA)); exact BK189.out), (by (with_reducible repeat (first | apply z_kN | apply z_kD | apply z_kA)); exact BK196.out), GW196.out, GE196.out, NB173_196.out, NB196_173.out, NB174_196.out, NB196_174.out, NB185_196.out, NB196_185.out, NB189_196.out, NB196_189.out, (by repeat (first | (with_reducible first | exact HB.out | apply z_bA | apply z_bN | apply z_bD | refine z_bS ?_ GE173.out | refine z_bS ?_ GE174.out | refine z_bS ?_ GE185.out | refine z_bS ?_ GE189.out | refine z_bS ?_ GE196.out) | exact HB.out))⟩)
   ·skip
    refine box_step ?hg (N := 13) ?hd (cs := #[.slice none 0 0]) (t := 29) ?hr ?_; (case hd => rfl); (case hg => rfl); (case hr => first | (go_simp; done) | (go_simp; rfl))
    intro gb196 hg w44 hbox hb
    have n0_ := z_aM (z_rB (by (with_reducible repeat (first | apply z_rA | apply z_rN | apply z_rD)); exact HO178.out) hb)
    have n1_ := z_aM (z_rB (by (with_reducible repeat (first | apply z_rA | apply z_rN | apply z_rD)); exact HO183.out) hb)
    have n2_ := z_aM (z_rB (by (with_reducible repeat (first | apply z_rA | apply z_rN | apply z_rD)); exact HO188.out) hb)
    have n3_ := z_aM (z_kB (by (with_reducible repeat (first | apply z_kN | apply z_kD | apply z_kA)); exact BK173.out) hb)
    have n4_ := z_aM (z_kB (by (with_reducible repeat (first | apply z_kN | apply z_kD | apply z_kA)); exact BK174.out) hb)
    have n5_ := z_aM (z_kB (by (with_reducible repeat (first | apply z_kN | apply z_kD | apply z_kA)); exact BK185.out) hb)
    have n6_ := z_aM (z_kB (by (with_reducible repeat (first | apply z_kN | apply z_kD | apply z_kA)); exact BK189.out) hb)
    have n7_ := z_aM (z_bT (by repeat (first | (with_reducible first | exact HB.out | apply z_bA | apply z_bN | apply z_bD | refine z_bS ?_ GE173.out | refine z_bS ?_ GE174.out | refine z_bS ?_ GE185.out | refine z_bS ?_ GE189.out) | exact HB.out)) hb)
    have n8_ := z_aM (hbox)
    have n9_ := z_aM ((by rw [hg]; exact (z_bZ (by repeat (first | (with_reducible first | exact HB.out | apply z_bA | apply z_bN | apply z_bD | refine z_bS ?_ GE173.out | refine z_bS ?_ GE174.out | refine z_bS ?_ GE185.out | refine z_bS ?_ GE189.out) | exact HB.out))) : w.heap.size ≤ gb196))
    have n10_ := z_aM ((by rw [hg]; exact (z_bZ (by repeat (first | (with_reducible first | exact HB.out | apply z_bA | apply z_bN | apply z_bD | refine z_bS ?_ GE173.out | refine z_bS ?_ GE174.out | refine z_bS ?_ GE185.out | refine z_bS ?_ GE189.out) | exact HB.out))) : w.heap.size ≤ gb196))
    have n11_ := z_aM ((by rw [hg]; exact Nat.ne_of_lt (z_kL (by (with_reducible repeat (first | apply z_kN | apply z_kD | apply z_kA)); exact BK173.out)) : gb173 ≠ gb196))
    have n12_ := z_aM ((by rw [hg]; exact Nat.ne_of_gt (z_kL (by (with_reducible repeat (first | apply z_kN | apply z_kD | apply z_kA)); exact BK173.out)) : gb196 ≠ gb173))
    have n13_ := z_aM ((by rw [hg]; exact Nat.ne_of_lt (z_kL (by (with_reducible repeat (first | apply z_kN | apply z_kD | apply z_kA)); exact BK174.out)) : gb174 ≠ gb196))
    have n14_ := z_aM ((by rw [hg]; exact Nat.ne_of_gt (z_kL (by (with_reducible repeat (first | apply z_kN | apply z_kD | apply z_kA)); exact BK174.out)) : gb196 ≠ gb174))
    have n15_ := z_aM ((by rw [hg]; exact Nat.ne_of_lt (z_kL (by (with_reducible repeat (first | apply z_kN | apply z_kD | apply z_kA)); exact BK185.out)) : gb185 ≠ gb196))
    have n16_ := z_aM ((by rw [hg]; exact Nat.ne_of_gt (z_kL (by (with_reducible repeat (first | apply z_kN | apply z_kD | apply z_kA)); exact BK185.out)) : gb196 ≠ gb185))
    have n17_ := z_aM ((by rw [hg]; exact Nat.ne_of_lt (z_kL (by (with_reducible repeat (first | apply z_kN | apply z_kD | apply z_kA)); exact BK189.out)) : gb189 ≠ gb196))
    have n18_ := z_aM ((by rw [hg]; exact Nat.ne_of_gt (z_kL (by (with_reducible repeat (first | apply z_kN | apply z_kD | apply z_kA)); exact BK189.out)) : gb196 ≠ gb189))
    clear HO178
    clear HO183
    clear HO188
    clear BK173
    clear BK174
    clear BK185
    clear BK189
    clear HB
    have HO178 := n0_
    have HO183 := n1_
    have HO188 := n2_
    have BK173 := n3_
    have BK174 := n4_
    have BK185 := n5_
    have BK189 := n6_
    have HB := n7_
    have BK196 := n8_
    have GW196 := n9_
    have GE196 := n10_
    have NB173_196 := n11_
    have NB196_173 := n12_
    have NB174_196 := n13_
    have NB196_174 := n14_
    have NB185_196 := n15_
    have NB196_185 := n16_
    have NB189_196 := n17_
    have NB196_189 := n18_
    clear n0_ n1_ n2_ n3_ n4_ n5_ n6_ n7_ n8_ n9_ n10_ n11_ n12_ n13_ n14_ n15_ n16_ n17_ n18_
    clear hb hbox hg
    refine hK.out _ _ ⟨(z_kC BK189.out 0).trans rfl, (z_kC BK174.out 0).trans rfl, (z_kC BK174.out 1).trans rfl⟩ (fun hHeld => ?_)
    clear hK K
    refine norm_ (a' := ?_) ?_ ?_
    rotate_left
    ·show Act.put _ (some 13) _ = _
     simp only [Act.put, z_lA, z_lZ, z_lS, i64_w, i32_w]
     rfl
    refine one_ (i := 2) (N := some 40) #[true, true, true, true, true, false, false, false, false, true, false, false] rfl rfl (one_of HT_.out (by kernel_rfl)) (by decide) (fun K hK => ?_)
    refine goes_ Try.func27 (by kernel_rfl) rfl #[.agg #[.int .i64 a1_0, .int .i64 a1_1]] (by rfl) rfl rfl (by (try simp only [List.map_toArray, List.map_cons, List.map_nil]); first | done | rfl | (simp only [List.length_drop, List.length_take]; rfl)) ?_
    with_reducible refine (laws_toRegion.calls a1_0 a1_1 t190 t191 _ A16.out).mono ?_
    rintro e w45 ⟨rfl, hb⟩
    refine ⟨_, rfl, ?_⟩
    have n0_ := z_aM (z_rB (by (with_reducible repeat (first | apply z_rA | apply z_rN | apply z_rD)); exact HO178.out) hb)
    have n1_ := z_aM (z_rB (by (with_reducible repeat (first | apply z_rA | apply z_rN | apply z_rD)); exact HO183.out) hb)
    have n2_ := z_aM (z_rB (by (with_reducible repeat (first | apply z_rA | apply z_rN | apply z_rD)); exact HO188.out) hb)
    have n3_ := z_aM (z_kB (by (with_reducible repeat (first | apply z_kN | apply z_kD | apply z_kA)); exact BK173.out) hb)
    have n4_ := z_aM (z_kB (by (with_reducible repeat (first | apply z_kN | apply z_kD | apply z_kA)); exact BK174.out) hb)
    have n5_ := z_aM (z_kB (by (with_reducible repeat (first | apply z_kN | apply z_kD | apply z_kA)); exact BK185.out) hb)
    have n6_ := z_aM (z_kB (by (with_reducible repeat (first | apply z_kN | apply z_kD | apply z_kA)); exact BK189.out) hb)
    have n7_ := z_aM (z_kB (by (with_reducible repeat (first | apply z_kN | apply z_kD | apply z_kA)); exact BK196.out) hb)
    have n8_ := z_aM (z_bT (by repeat (first | (with_reducible first | exact HB.out | apply z_bA | apply z_bN | apply z_bD | refine z_bS ?_ GE173.out | refine z_bS ?_ GE174.out | refine z_bS ?_ GE185.out | refine z_bS ?_ GE189.out | refine z_bS ?_ GE196.out) | exact HB.out)) hb)
    clear HO178
    clear HO183
    clear HO188
    clear BK173
    clear BK174
    clear BK185
    clear BK189
    clear BK196
    clear HB
    have HO178 := n0_
    have HO183 := n1_
    have HO188 := n2_
    have BK173 := n3_
    have BK174 := n4_
    have BK185 := n5_
    have BK189 := n6_
    have BK196 := n7_
    have HB := n8_
    clear n0_ n1_ n2_ n3_ n4_ n5_ n6_ n7_ n8_
    (try clear hb)
    (try clear hb2)
    (try clear hk)
    (try clear hi)
    refine hK.out _ _ ⟨(z_kC BK189.out 0).trans rfl, (z_kC BK174.out 0).trans rfl, (z_kC BK174.out 1).trans rfl⟩ (fun hHeld => ?_)
    clear hK K
    refine norm_ (a' := ?_) ?_ ?_
    rotate_left
    ·show Act.put _ (some 40) _ = _
     simp only [Act.put, z_lA, z_lZ, z_lS, i64_w, i32_w]
     rfl
    refine one_ (i := 5) (N := some 43) #[true, true, true, true, true, true, false, false, false, true, false, false] rfl rfl (one_of HT_.out (by kernel_rfl)) (by decide) (fun K hK => ?_)
    refine goes_ Try.func17 (by kernel_rfl) rfl #[.agg #[.slice Ao37 t186.length co37], .agg #[.int .i64 t190, .int .i64 t191], .int .i64 a2, .int .i64 a3] (by rfl) rfl rfl (by (try simp only [List.map_toArray, List.map_cons, List.map_nil]); first | done | rfl | (simp only [List.length_drop, List.length_take]; rfl)) ?_
    with_reducible refine (impl_StoreCell.calls _ _ t186 t190 t191 a2 a3 t192 t195 _ ?side1 ?side2 A17.out).mono ?_
    (case side1 => repeat (first | exact (Kd.R_reads' HO188.out).2.2 | (with_reducible refine Kd.C_alloc ?_ _) | (with_reducible refine Kd.C_drewN ?_ _) | (with_reducible refine Kd.C_drew ?_)))
    (case side2 => exact (Kd.R_reads' HO188.out).2.1)
    rintro e w46 ⟨v193, rfl, ho0, hb⟩
    refine ⟨_, rfl, ?_⟩
    have n0_ := z_aM (Kd.R_elder' (by (with_reducible repeat (first | apply z_rA | apply z_rN | apply z_rD)); exact HO178.out) (Kd.R_base ho0) hb)
    have n1_ := z_aM (Kd.R_elder' (by (with_reducible repeat (first | apply z_rA | apply z_rN | apply z_rD)); exact HO183.out) (Kd.R_base ho0) hb)
    have n2_ := z_aM (Kd.R_elder' (by (with_reducible repeat (first | apply z_rA | apply z_rN | apply z_rD)); exact HO188.out) (Kd.R_base ho0) hb)
    have n3_ := z_aM (Kd.R_lower (Kd.R_new' (Kd.R_new' (Kd.R_new' ho0 (z_rL (by (with_reducible repeat (first | apply z_rA | apply z_rN | apply z_rD)); exact HO178.out))) (z_rL (by (with_reducible repeat (first | apply z_rA | apply z_rN | apply z_rD)); exact HO183.out))) (z_rL (by (with_reducible repeat (first | apply z_rA | apply z_rN | apply z_rD)); exact HO188.out))) (z_bZ (by repeat (first | (with_reducible first | exact HB.out | apply z_bA | apply z_bN | apply z_bD | refine z_bS ?_ GE173.out | refine z_bS ?_ GE174.out | refine z_bS ?_ GE185.out | refine z_bS ?_ GE189.out | refine z_bS ?_ GE196.out) | exact HB.out))))
    have n4_ := z_aM (z_kB (by (with_reducible repeat (first | apply z_kN | apply z_kD | apply z_kA)); exact BK173.out) hb)
    have n5_ := z_aM (z_kB (by (with_reducible repeat (first | apply z_kN | apply z_kD | apply z_kA)); exact BK174.out) hb)
    have n6_ := z_aM (z_kB (by (with_reducible repeat (first | apply z_kN | apply z_kD | apply z_kA)); exact BK185.out) hb)
    have n7_ := z_aM (z_kB (by (with_reducible repeat (first | apply z_kN | apply z_kD | apply z_kA)); exact BK189.out) hb)
    have n8_ := z_aM (z_kB (by (with_reducible repeat (first | apply z_kN | apply z_kD | apply z_kA)); exact BK196.out) hb)
    have n9_ := z_aM (z_bT (by repeat (first | (with_reducible first | exact HB.out | apply z_bA | apply z_bN | apply z_bD | refine z_bS ?_ GE173.out | refine z_bS ?_ GE174.out | refine z_bS ?_ GE185.out | refine z_bS ?_ GE189.out | refine z_bS ?_ GE196.out) | exact HB.out)) hb)
    clear HO178
    clear HO183
    clear HO188
    clear BK173
    clear BK174
    clear BK185
    clear BK189
    clear BK196
    clear HB
    have HO178 := n0_
    have HO183 := n1_
    have HO188 := n2_
    have HO194 := n3_
    have BK173 := n4_
    have BK174 := n5_
    have BK185 := n6_
    have BK189 := n7_
    have BK196 := n8_
    have HB := n9_
    clear n0_ n1_ n2_ n3_ n4_ n5_ n6_ n7_ n8_ n9_
    (try clear hb)
    (try clear hb2)
    (try clear hk)
    (try clear hi)
    (try clear ho0)
    refine hK.out _ _ ⟨(z_kC BK189.out 0).trans rfl, (z_kC BK174.out 0).trans rfl, (z_kC BK174.out 1).trans rfl⟩ (fun hHeld => ?_)
    clear hK K
    refine norm_ (a' := ?_) ?_ ?_
    rotate_left
    ·show Act.put _ (some 43) _ = _
     simp only [Act.put, z_lA, z_lZ, z_lS, i64_w, i32_w]
     rfl
    refine pure_ (i := 6) (N := some 37) (v := ?_) (a' := ?_) #[true, true, true, true, true, true, true, false, false, true, false, false] rfl rfl (any_of HT_.out (by kernel_rfl)) (fun _ _ _ h => h) (Or.inl ⟨by rfl, ?_⟩) ?_ ?_
    rotate_left
    ·intro w'
     go_simp
     with_reducible rfl
    rotate_left
    ·simp only [Act.put, z_lA, z_lZ, z_lS, i64_w, i32_w]
     rfl
    refine pure_ (i := 7) (N := some 44) (v := ?_) (a' := ?_) #[true, true, true, true, true, true, true, true, false, true, false, false] rfl rfl (any_of HT_.out (by kernel_rfl)) (fun _ _ _ h => h) (Or.inl ⟨by rfl, ?_⟩) ?_ ?_
    rotate_left
    ·intro w'
     go_simp
     with_reducible rfl
    rotate_left
    ·simp only [Act.put, z_lA, z_lZ, z_lS, i64_w, i32_w]
     rfl
    refine pure_ (i := 8) (N := some 45) (v := ?_) (a' := ?_) #[true, true, true, true, true, true, true, true, true, true, false, false] rfl rfl (any_of HT_.out (by kernel_rfl)) (fun _ _ _ h => h) (Or.inl ⟨by rfl, ?_⟩) ?_ ?_
    rotate_left
    ·intro w'
     go_simp
     with_reducible rfl
    rotate_left
    ·simp only [Act.put, z_lA, z_lZ, z_lS, i64_w, i32_w]
     rfl
    exact norm_ (by simp only [putAll, Act.put, z_lA, z_lZ, z_lS]) (hCont (v193, gb196) _ ⟨hHeld, (by (with_reducible repeat (first | apply z_rA | apply z_rN | apply z_rD)); exact z_rM HO178.out (fun _ hk => ⟨hk.1.1, ⟨hk.1.2, hk.2⟩⟩)), (by (with_reducible repeat (first | apply z_rA | apply z_rN | apply z_rD)); exact z_rM HO183.out (fun _ hk => ⟨hk.1.1, ⟨hk.1.2, hk.2⟩⟩)), (by (with_reducible repeat (first | apply z_rA | apply z_rN | apply z_rD)); exact z_rM HO188.out (fun _ hk => ⟨hk.1.1, ⟨hk.1.2, hk.2⟩⟩)), (by (with_reducible repeat (first | apply z_rA | apply z_rN | apply z_rD)); exact z_rM HO194.out (fun _ hk => ⟨hk.1.1.2, ⟨hk.1.2, hk.2⟩⟩)), (by (with_reducible repeat (first | apply z_kN | apply z_kD | apply z_kA)); exact BK173.out), (by (with_reducible repeat (first | apply z_kN | apply z_kD | apply z_kA)); exact BK174.out), (by (with_reducible repeat (first | apply z_kN | apply z_kD | apply z_kA)); exact BK185.out), (by (with_reducible repeat (first | apply z_kN | apply z_kD | apply z_kA)); exact BK189.out), (by (with_reducible repeat (first | apply z_kN | apply z_kD | apply z_kA)); exact BK196.out), GW196.out, GE196.out, NB173_196.out, NB196_173.out, NB174_196.out, NB196_174.out, NB185_196.out, NB196_185.out, NB189_196.out, NB196_189.out, (by repeat (first | (with_reducible first | exact HB.out | apply z_bA | apply z_bN | apply z_bD | refine z_bS ?_ GE173.out | refine z_bS ?_ GE174.out | refine z_bS ?_ GE185.out | refine z_bS ?_ GE189.out | refine z_bS ?_ GE196.out) | exact HB.out))⟩)
  rintro ⟨v193, gb196⟩ w47 ⟨hS_, h0_, h1_, h2_, h3_, h4_, h5_, h6_, h7_, h8_, h9_, h10_, h11_, h12_, h13_, h14_, h15_, h16_, h17_, h18_, h19_⟩
  have n0_ : Aside0 (Kd.R (Kd.int .i64) 3 w47 w.heap.size (fun k_ => some k_ ≠ (.slice Ao31 t181.length co31 : Value).ownBlock ∧ some k_ ≠ (.slice Ao37 t186.length co37 : Value).ownBlock ∧ some k_ ≠ (v193 : Value).ownBlock) v177 t176) := ⟨h0_⟩
  have n1_ : Aside0 (Kd.R (Kd.int .i64) 3 w47 w.heap.size (fun k_ => some k_ ≠ (v177 : Value).ownBlock ∧ some k_ ≠ (.slice Ao37 t186.length co37 : Value).ownBlock ∧ some k_ ≠ (v193 : Value).ownBlock) (.slice Ao31 t181.length co31) t181) := ⟨h1_⟩
  have n2_ : Aside0 (Kd.R (Kd.int .i64) 3 w47 w.heap.size (fun k_ => some k_ ≠ (v177 : Value).ownBlock ∧ some k_ ≠ (.slice Ao31 t181.length co31 : Value).ownBlock ∧ some k_ ≠ (v193 : Value).ownBlock) (.slice Ao37 t186.length co37) t186) := ⟨h2_⟩
  have n3_ : Aside0 (Kd.R (Kd.int .i64) 3 w47 w.heap.size (fun k_ => some k_ ≠ (v177 : Value).ownBlock ∧ some k_ ≠ (.slice Ao31 t181.length co31 : Value).ownBlock ∧ some k_ ≠ (.slice Ao37 t186.length co37 : Value).ownBlock) v193 t192) := ⟨h3_⟩
  have n4_ : Aside0 (w47.heap[gb173]? = some (.cells #[.slice A0_0 l0_0.length c0_0] 41 (0, 0))) := ⟨h4_⟩
  have n5_ : Aside0 (w47.heap[gb174]? = some (.cells #[.int .i64 a1_0, .int .i64 a1_1] 42 (0, 0))) := ⟨h5_⟩
  have n6_ : Aside0 (w47.heap[gb185]? = some (.cells #[.slice Ao31 t181.length co31] 29 (0, 0))) := ⟨h6_⟩
  have n7_ : Aside0 (w47.heap[gb189]? = some (.cells #[.slice Ao37 t186.length co37] 29 (0, 0))) := ⟨h7_⟩
  have n8_ : Aside0 (w47.heap[gb196]? = some (.cells #[.slice none 0 0] 29 (0, 0))) := ⟨h8_⟩
  have n9_ : Aside0 (w.heap.size ≤ gb196) := ⟨h9_⟩
  have n10_ : Aside0 (w.heap.size ≤ gb196) := ⟨h10_⟩
  have n11_ : Aside0 (gb173 ≠ gb196) := ⟨h11_⟩
  have n12_ : Aside0 (gb196 ≠ gb173) := ⟨h12_⟩
  have n13_ : Aside0 (gb174 ≠ gb196) := ⟨h13_⟩
  have n14_ : Aside0 (gb196 ≠ gb174) := ⟨h14_⟩
  have n15_ : Aside0 (gb185 ≠ gb196) := ⟨h15_⟩
  have n16_ : Aside0 (gb196 ≠ gb185) := ⟨h16_⟩
  have n17_ : Aside0 (gb189 ≠ gb196) := ⟨h17_⟩
  have n18_ : Aside0 (gb196 ≠ gb189) := ⟨h18_⟩
  have n19_ : Aside0 (Below w.heap.size w w47) := ⟨h19_⟩
  clear HO178
  clear HO183
  clear HO188
  clear BK173
  clear BK174
  clear BK185
  clear BK189
  clear HB
  clear h0_ h1_ h2_ h3_ h4_ h5_ h6_ h7_ h8_ h9_ h10_ h11_ h12_ h13_ h14_ h15_ h16_ h17_ h18_ h19_
  have HO178 := n0_
  have HO183 := n1_
  have HO188 := n2_
  have HO194 := n3_
  have BK173 := n4_
  have BK174 := n5_
  have BK185 := n6_
  have BK189 := n7_
  have BK196 := n8_
  have GW196 := n9_
  have GE196 := n10_
  have NB173_196 := n11_
  have NB196_173 := n12_
  have NB174_196 := n13_
  have NB196_174 := n14_
  have NB185_196 := n15_
  have NB196_185 := n16_
  have NB189_196 := n17_
  have NB196_189 := n18_
  have HB := n19_
  clear n0_ n1_ n2_ n3_ n4_ n5_ n6_ n7_ n8_ n9_ n10_ n11_ n12_ n13_ n14_ n15_ n16_ n17_ n18_ n19_
  have hHeld : w47.cell? ⟨gb189, 0, none⟩ = some (.slice Ao37 t186.length co37) ∧ w47.cell? ⟨gb174, 0, none⟩ = some (.int .i64 a1_0) ∧ w47.cell? ⟨gb174, 1, none⟩ = some (.int .i64 a1_1) := hS_
  obtain ⟨Ao48, co48, eo48⟩ := Kd.R_slice HO194.out
  (first | subst eo48 | (injection eo48 with f1_ f2_ f3_; have f4_ := f1_.symm; have f5_ := f3_.symm; clear f1_ f2_ f3_; subst f4_; subst f5_))
  refine norm_ (a' := ?_) ?_ ?_
  rotate_left
  ·simp only [putAll, Act.put, z_lA, z_lZ, z_lS]
   rfl
  refine one_ (i := 10) (N := none) #[true, true, true, true, true, true, true, true, true, true, true, false] rfl rfl (one_of HT_.out (by kernel_rfl)) (by decide) (fun K hK => ?_)
  have hs49 : w47.cell? ⟨gb196, 0, none⟩ = some (.slice none 0 0) := (z_kC BK196.out 0).trans rfl
  have hfs49 := blk_frozen BK196.out 0
  have hns49_0 := NB173_196.out
  have hns49_1 := NB174_196.out
  have hns49_2 := NB185_196.out
  have hns49_3 := NB189_196.out
  have hms49_0 := NB196_173.out
  have hms49_1 := NB196_174.out
  have hms49_2 := NB196_185.out
  have hms49_3 := NB196_189.out
  refine skip_ (w1 := ?_) (by rfl) rfl ?_ ?_
  rotate_left
  ·go_simp
   rfl
  refine hK.out _ _ ⟨((cell_far (p := ⟨gb196, _, none⟩) NB189_196.out _).trans (hHeld.1)), ((cell_far (p := ⟨gb196, _, none⟩) NB174_196.out _).trans (hHeld.2.1)), ((cell_far (p := ⟨gb196, _, none⟩) NB174_196.out _).trans (hHeld.2.2))⟩ (fun hHeld => ?_)
  clear hK K
  refine pure_ (i := 11) (N := some 14) (v := ?_) (a' := ?_) #[true, true, true, true, true, true, true, true, true, true, true, true] rfl rfl (any_of HT_.out (by kernel_rfl)) (fun _ _ _ h => h) (Or.inl ⟨by rfl, ?_⟩) ?_ ?_
  rotate_left
  ·intro w'
   go_simp
   with_reducible rfl
  rotate_left
  ·simp only [Act.put, z_lA, z_lZ, z_lS, i64_w, i32_w]
   rfl
  refine done_ (done_of HT_.out (by kernel_rfl)) ?_
  go_upto_region 8 with (fail)
  go_cut [54] (fun v54 wc => ∃ (kq : Nat) (x54_17 : Bool), v54 = .bool x54_17 ∧ Aside0 (laws_FnExactStoreCell.j0 kq a2 a3 t184 t195 x54_17 l0_0 a1_0 a1_1 t181 t186 t192 = some r) ∧ Aside0 (kq ≤ k) ∧ Aside0 (Kd.R (Kd.int .i64) 3 wc w.heap.size (fun k_ => some k_ ≠ ((.slice Ao37 t186.length co37) : Value).ownBlock ∧ some k_ ≠ ((.slice Ao48 t192.length co48) : Value).ownBlock) (.slice Ao31 t181.length co31) t181) ∧ Aside0 (Kd.R (Kd.int .i64) 3 wc w.heap.size (fun k_ => some k_ ≠ ((.slice Ao31 t181.length co31) : Value).ownBlock ∧ some k_ ≠ ((.slice Ao48 t192.length co48) : Value).ownBlock) (.slice Ao37 t186.length co37) t186) ∧ Aside0 (Kd.R (Kd.int .i64) 3 wc w.heap.size (fun k_ => some k_ ≠ ((.slice Ao31 t181.length co31) : Value).ownBlock ∧ some k_ ≠ ((.slice Ao37 t186.length co37) : Value).ownBlock) (.slice Ao48 t192.length co48) t192) ∧ Aside0 (wc.heap[gb173]? = some (.cells #[(.slice A0_0 l0_0.length c0_0)] 41 (0, 0))) ∧ Aside0 (wc.heap[gb174]? = some (.cells #[.int .i64 a1_0, .int .i64 a1_1] 42 (0, 0))) ∧ Aside0 (wc.heap[gb185]? = some (.cells #[(.slice Ao31 t181.length co31)] 29 (0, 0))) ∧ Aside0 (wc.heap[gb189]? = some (.cells #[(.slice Ao37 t186.length co37)] 29 (0, 0))) ∧ Aside0 (wc.heap[gb196]? = some (.cells #[(.slice Ao48 t192.length co48)] 29 (0, 0))) ∧ Aside0 (Below w.heap.size w wc))
  case first =>
   have H := HC18.out
   clear HC18
   replace H := Option.bind_eq_some_iff.mp H
   obtain ⟨t197, A500, H⟩ := H
   replace H : (if t197 = true then (laws_FnExactStoreCell.j0 k a2 a3 t184 t195 (t195 != t184) l0_0 a1_0 a1_1 t181 t186 t192) else (laws_FnExactStoreCell.j0 k a2 a3 t184 t195 true l0_0 a1_0 a1_1 t181 t186 t192)) = some r := H
   have A50 := z_aM A500
   clear A500
   by_cases c51 : t197 = true
   ·subst c51
    have H1 : (laws_FnExactStoreCell.j0 k a2 a3 t184 t195 (t195 != t184) l0_0 a1_0 a1_1 t181 t186 t192) = some r := by rw [if_pos rfl] at H; exact H
    clear H
    have H := H1
    clear H1
    have H' := z_aM H
    clear H
    have hnb52 := NB196_173.out
    have hnc52 := NB173_196.out
    have hnb53 := NB196_174.out
    have hnc53 := NB174_196.out
    have hnb54 := NB196_185.out
    have hnc54 := NB185_196.out
    have hnb55 := NB196_189.out
    have hnc55 := NB189_196.out
    have hcz56_0 : w47.cell? ⟨gb196, 0, none⟩ = some (.slice none 0 0) := (z_kC BK196.out 0).trans rfl
    have hfz56_0 := blk_frozen BK196.out 0
    have hnb57 := NB185_173.out
    have hnc57 := NB173_185.out
    have hnb58 := NB185_174.out
    have hnc58 := NB174_185.out
    have hnb59 := NB185_189.out
    have hnc59 := NB189_185.out
    have hcz60_0 : w47.cell? ⟨gb185, 0, none⟩ = some (.slice Ao31 t181.length co31) := (z_kC BK185.out 0).trans rfl
    have hfz60_0 := blk_frozen BK185.out 0
    go_wp2_with (first | ((with_reducible refine gate_callee (f := 28) rfl ?_); refine goesL_ (some 48) rfl rfl Try.func28 (by kernel_rfl) rfl #[.agg #[.slice Ao48 t192.length co48], .agg #[.slice Ao31 t181.length co31]] rfl (by (try simp only [List.map_toArray, List.map_cons, List.map_nil]); first | done | rfl | (simp only [List.length_drop, List.length_take]; rfl)) ?_; (with_reducible refine (laws_eqArena.calls k _ _ t192 _ _ t181 true _ ?side1 ?side2 ?side3 ?side4 A50.out).mono ?_); (case side1 => refine (Kd.R_reads' (e := 3) (base := w.heap.size) (ok := fun k_ => (some k_ ≠ (v177 : Value).ownBlock ∧ (some k_ ≠ (.slice Ao31 t181.length co31 : Value).ownBlock ∧ some k_ ≠ (.slice Ao37 t186.length co37 : Value).ownBlock))) (n := t192.length) (c := co48) ?_).2.2; exact (by (with_reducible repeat (first | apply z_rA | apply z_rN | apply z_rD)); exact (z_rM (Kd.R_far (p := ⟨gb196, 0, none⟩) (Kd.R_types HO194.out BK196.out (by decide)) (fun _ hk => hk.2) (.slice Ao48 t192.length co48)) (fun _ h_ => h_.1)))); (case side2 => exact (Kd.R_reads' HO194.out).2.1); (case side3 => refine (Kd.R_reads' (e := 3) (base := w.heap.size) (ok := fun k_ => (some k_ ≠ (v177 : Value).ownBlock ∧ (some k_ ≠ (.slice Ao37 t186.length co37 : Value).ownBlock ∧ some k_ ≠ (.slice Ao48 t192.length co48 : Value).ownBlock))) (n := t181.length) (c := co31) ?_).2.2; exact (by (with_reducible repeat (first | apply z_rA | apply z_rN | apply z_rD)); exact (z_rM (Kd.R_far (p := ⟨gb196, 0, none⟩) (Kd.R_types HO183.out BK196.out (by decide)) (fun _ hk => hk.2) (.slice Ao48 t192.length co48)) (fun _ h_ => h_.1)))); (case side4 => exact (Kd.R_reads' HO183.out).2.1); rintro e w61 ⟨rfl, hb⟩; refine ⟨_, rfl, ?_⟩; have n0_ := z_aM (z_rB (by (with_reducible repeat (first | apply z_rA | apply z_rN | apply z_rD)); exact (z_rM (Kd.R_far (p := ⟨gb196, 0, none⟩) (Kd.R_types HO178.out BK196.out (by decide)) (fun _ hk => hk.2) (.slice Ao48 t192.length co48)) (fun _ h_ => h_.1))) hb); have n1_ := z_aM (z_rB (by (with_reducible repeat (first | apply z_rA | apply z_rN | apply z_rD)); exact (z_rM (Kd.R_far (p := ⟨gb196, 0, none⟩) (Kd.R_types HO183.out BK196.out (by decide)) (fun _ hk => hk.2) (.slice Ao48 t192.length co48)) (fun _ h_ => h_.1))) hb); have n2_ := z_aM (z_rB (by (with_reducible repeat (first | apply z_rA | apply z_rN | apply z_rD)); exact (z_rM (Kd.R_far (p := ⟨gb196, 0, none⟩) (Kd.R_types HO188.out BK196.out (by decide)) (fun _ hk => hk.2) (.slice Ao48 t192.length co48)) (fun _ h_ => h_.1))) hb); have n3_ := z_aM (z_rB (by (with_reducible repeat (first | apply z_rA | apply z_rN | apply z_rD)); exact (z_rM (Kd.R_far (p := ⟨gb196, 0, none⟩) (Kd.R_types HO194.out BK196.out (by decide)) (fun _ hk => hk.2) (.slice Ao48 t192.length co48)) (fun _ h_ => h_.1))) hb); have n4_ := z_aM (z_kB (g := gb173) (o := .cells #[.slice A0_0 l0_0.length c0_0] 41 (0, 0)) (by (with_reducible repeat (first | apply z_kN | apply z_kD | apply z_kA)); refine blk_far ?_ NB173_196.out _; (with_reducible repeat (first | apply z_kN | apply z_kD | apply z_kA)); exact BK173.out) hb); have n5_ := z_aM (z_kB (g := gb174) (o := .cells #[.int .i64 a1_0, .int .i64 a1_1] 42 (0, 0)) (by (with_reducible repeat (first | apply z_kN | apply z_kD | apply z_kA)); refine blk_far ?_ NB174_196.out _; (with_reducible repeat (first | apply z_kN | apply z_kD | apply z_kA)); exact BK174.out) hb); have n6_ := z_aM (z_kB (g := gb185) (o := .cells #[.slice Ao31 t181.length co31] 29 (0, 0)) (by (with_reducible repeat (first | apply z_kN | apply z_kD | apply z_kA)); refine blk_far ?_ NB185_196.out _; (with_reducible repeat (first | apply z_kN | apply z_kD | apply z_kA)); exact BK185.out) hb); have n7_ := z_aM (z_kB (g := gb189) (o := .cells #[.slice Ao37 t186.length co37] 29 (0, 0)) (by (with_reducible repeat (first | apply z_kN | apply z_kD | apply z_kA)); refine blk_far ?_ NB189_196.out _; (with_reducible repeat (first | apply z_kN | apply z_kD | apply z_kA)); exact BK189.out) hb); have n8_ := z_aM (z_kB (g := gb196) (o := .cells #[.slice Ao48 t192.length co48] 29 (0, 0)) (by (with_reducible repeat (first | apply z_kN | apply z_kD | apply z_kA)); refine blk_put (cs := #[.slice none 0 0]) ?_ 0 _ rfl; (with_reducible repeat (first | apply z_kN | apply z_kD | apply z_kA)); exact BK196.out) hb); have n9_ := z_aM (z_bT (by repeat (first | (with_reducible first | exact HB.out | apply z_bA | apply z_bN | apply z_bD | refine z_bS ?_ GE173.out | refine z_bS ?_ GE174.out | refine z_bS ?_ GE185.out | refine z_bS ?_ GE189.out | refine z_bS ?_ GE196.out) | exact HB.out)) hb); clear HO178; clear HO183; clear HO188; clear HO194; clear BK173; clear BK174; clear BK185; clear BK189; clear BK196; clear HB; have HO178 := n0_; have HO183 := n1_; have HO188 := n2_; have HO194 := n3_; have BK173 := n4_; have BK174 := n5_; have BK185 := n6_; have BK189 := n7_; have BK196 := n8_; have HB := n9_; clear n0_ n1_ n2_ n3_ n4_ n5_ n6_ n7_ n8_ n9_; (try clear hb); (try clear hb2); (try clear hk); (try clear hi)))
    go_meet
    case rel => exact ⟨_, ((t195 != t184)), (by first | rfl | (simp; done) | (simp [*]; done)), H', ⟨by first | omega | exact Nat.le_refl _⟩, ⟨by (with_reducible repeat (first | apply z_rA | apply z_rN | apply z_rD)); exact z_rM HO183.out (fun _ hk => ⟨hk.2.1, hk.2.2⟩)⟩, ⟨by (with_reducible repeat (first | apply z_rA | apply z_rN | apply z_rD)); exact z_rM HO188.out (fun _ hk => ⟨hk.2.1, hk.2.2⟩)⟩, ⟨by (with_reducible repeat (first | apply z_rA | apply z_rN | apply z_rD)); exact z_rM HO194.out (fun _ hk => ⟨hk.2.1, hk.2.2⟩)⟩, ⟨by (with_reducible repeat (first | apply z_kN | apply z_kD | apply z_kA)); exact BK173.out⟩, ⟨by (with_reducible repeat (first | apply z_kN | apply z_kD | apply z_kA)); exact BK174.out⟩, ⟨by (with_reducible repeat (first | apply z_kN | apply z_kD | apply z_kA)); exact BK185.out⟩, ⟨by (with_reducible repeat (first | apply z_kN | apply z_kD | apply z_kA)); exact BK189.out⟩, ⟨by (with_reducible repeat (first | apply z_kN | apply z_kD | apply z_kA)); exact BK196.out⟩, ⟨by repeat (first | (with_reducible first | exact HB.out | apply z_bA | apply z_bN | apply z_bD | refine z_bS ?_ GE173.out | refine z_bS ?_ GE174.out | refine z_bS ?_ GE185.out | refine z_bS ?_ GE189.out | refine z_bS ?_ GE196.out) | exact HB.out)⟩⟩
   ·replace c51 := Bool.eq_false_iff.mpr c51
    subst c51
    have H1 : (laws_FnExactStoreCell.j0 k a2 a3 t184 t195 true l0_0 a1_0 a1_1 t181 t186 t192) = some r := by rw [if_neg (show ¬ (false = true) by decide)] at H; exact H
    clear H
    have H := H1
    clear H1
    exfalso
    rw [hrt.out] at H
    rcases k with _ | k <;> simp [laws_FnExactStoreCell.j0] at H
  case rest =>
   clear HC18
   try clear c1
   try clear c2
   try clear p2
   try clear c5
   try clear c6
   try clear c17
   try clear c27
   try clear c28
   try clear c51
   try clear c52
   try clear c53
   try clear c54
   try clear c55
   try clear c57
   try clear c58
   try clear c59
   try clear c62
   try clear c63
   try clear c64
   try clear c65
   try clear c67
   try clear c68
   try clear c69
   try clear hcz56_0
   try clear hcz60_0
   try clear hcz66_0
   try clear hcz70_0
   try clear hfz56_0
   try clear hfz60_0
   try clear hfz66_0
   try clear hfz70_0
   obtain ⟨kq, x54_17, rfl, HA, HJ17, HO_186000, HO_190000, HO_197000, BK173, BK174, BK185, BK189, BK196, HB⟩ := hcut
   cases kq with
   | zero => exact absurd HA.out (by simp [laws_FnExactStoreCell.j0])
   | succ kj17 =>
    have H := HA.out
    clear HA
    simp only [laws_FnExactStoreCell.j0] at H
    by_cases c72 : x54_17 = true
    ·subst c72
     have H1 : (some false) = some r := by rw [if_pos rfl] at H; exact H
     clear H
     have H := H1
     clear H1
     exact absurd (Option.some.inj H) (by rw [hrt.out]; decide)
    ·replace c72 := Bool.eq_false_iff.mpr c72
     subst c72
     have H1 : ((laws_toArena.f kj17 l0_0).bind fun t198 => ((laws_eqArena.f kj17 t186 t198).bind fun t201 => (if t201 = true then ((laws_markArena.f kj17 t186 1).bind fun bt202 => (if bt202.1 < 0 then (laws_FnExactStoreCell.j1 kj17 a2 a3 t184 true l0_0 a1_0 a1_1 t181 t192) else ((laws_eqArena.f kj17 t192 t181).bind fun t204 => (if t204 = true then (laws_FnExactStoreCell.j1 kj17 a2 a3 t184 (t195 != t184) l0_0 a1_0 a1_1 t181 t192) else (laws_FnExactStoreCell.j1 kj17 a2 a3 t184 true l0_0 a1_0 a1_1 t181 t192))))) else (some false)))) = some r := by rw [if_neg (show ¬ (false = true) by decide)] at H; exact H
     clear H
     have H := H1
     clear H1
     replace H := Option.bind_eq_some_iff.mp H
     obtain ⟨t198, A730, H⟩ := H
     replace H : ((laws_eqArena.f kj17 t186 t198).bind fun t201 => (if t201 = true then ((laws_markArena.f kj17 t186 1).bind fun bt202 => (if bt202.1 < 0 then (laws_FnExactStoreCell.j1 kj17 a2 a3 t184 true l0_0 a1_0 a1_1 t181 t192) else ((laws_eqArena.f kj17 t192 t181).bind fun t204 => (if t204 = true then (laws_FnExactStoreCell.j1 kj17 a2 a3 t184 (t195 != t184) l0_0 a1_0 a1_1 t181 t192) else (laws_FnExactStoreCell.j1 kj17 a2 a3 t184 true l0_0 a1_0 a1_1 t181 t192))))) else (some false))) = some r := H
     have A73 := z_aM A730
     clear A730
     replace H := Option.bind_eq_some_iff.mp H
     obtain ⟨t201, A740, H⟩ := H
     replace H : (if t201 = true then ((laws_markArena.f kj17 t186 1).bind fun bt202 => (if bt202.1 < 0 then (laws_FnExactStoreCell.j1 kj17 a2 a3 t184 true l0_0 a1_0 a1_1 t181 t192) else ((laws_eqArena.f kj17 t192 t181).bind fun t204 => (if t204 = true then (laws_FnExactStoreCell.j1 kj17 a2 a3 t184 (t195 != t184) l0_0 a1_0 a1_1 t181 t192) else (laws_FnExactStoreCell.j1 kj17 a2 a3 t184 true l0_0 a1_0 a1_1 t181 t192))))) else (some false)) = some r := H
     have A74 := z_aM A740
     clear A740
     by_cases c75 : t201 = true
     ·subst c75
      have H1 : ((laws_markArena.f kj17 t186 1).bind fun bt202 => (if bt202.1 < 0 then (laws_FnExactStoreCell.j1 kj17 a2 a3 t184 true l0_0 a1_0 a1_1 t181 t192) else ((laws_eqArena.f kj17 t192 t181).bind fun t204 => (if t204 = true then (laws_FnExactStoreCell.j1 kj17 a2 a3 t184 (t195 != t184) l0_0 a1_0 a1_1 t181 t192) else (laws_FnExactStoreCell.j1 kj17 a2 a3 t184 true l0_0 a1_0 a1_1 t181 t192))))) = some r := by rw [if_pos rfl] at H; exact H
      clear H
      have H := H1
      clear H1
      replace H := Option.bind_eq_some_iff.mp H
      obtain ⟨⟨t202, t203⟩, A760, H⟩ := H
      replace H : (if t202 < 0 then (laws_FnExactStoreCell.j1 kj17 a2 a3 t184 true l0_0 a1_0 a1_1 t181 t192) else ((laws_eqArena.f kj17 t192 t181).bind fun t204 => (if t204 = true then (laws_FnExactStoreCell.j1 kj17 a2 a3 t184 (t195 != t184) l0_0 a1_0 a1_1 t181 t192) else (laws_FnExactStoreCell.j1 kj17 a2 a3 t184 true l0_0 a1_0 a1_1 t181 t192)))) = some r := H
      have A76 := z_aM A760
      clear A760
      have HC77 := z_aM H
      clear H
      try go_wp2
      have n0_ := z_aM (z_rD HO_186000.out)
      have n1_ := z_aM (z_rD HO_190000.out)
      have n2_ := z_aM (z_rD HO_197000.out)
      have n3_ := z_aM (z_kD BK173.out)
      have n4_ := z_aM (z_kD BK174.out)
      have n5_ := z_aM (z_kD BK185.out)
      have n6_ := z_aM (z_kD BK189.out)
      have n7_ := z_aM (z_kD BK196.out)
      have n8_ := z_aM (z_bD HB.out)
      clear HO_186000
      clear HO_190000
      clear HO_197000
      clear BK173
      clear BK174
      clear BK185
      clear BK189
      clear BK196
      clear HB
      have HO_186000 := n0_
      have HO_190000 := n1_
      have HO_197000 := n2_
      have BK173 := n3_
      have BK174 := n4_
      have BK185 := n5_
      have BK189 := n6_
      have BK196 := n7_
      have HB := n8_
      clear n0_ n1_ n2_ n3_ n4_ n5_ n6_ n7_ n8_
      refine start_ (n := 5) (S := fun w' => w'.cell? ⟨gb189, 0, none⟩ = some (.slice Ao37 t186.length co37) ∧ w'.cell? ⟨gb173, 0, none⟩ = some (.slice A0_0 l0_0.length c0_0)) (ds := []) #[false, false, false, false, false] (by kernel_rfl) rfl rfl ⟨(z_kC BK189.out 0).trans rfl, (z_kC BK173.out 0).trans rfl⟩ (fun hHeld => ?_)
      generalize wc.drew = w78 at HO_186000 HO_190000 HO_197000 BK173 BK174 BK185 BK189 BK196 HB hHeld ⊢
      refine take_ (i := 0) (N := some 55) (v := ?_) (a' := ?_) #[true, false, false, false, false] rfl rfl (by kernel_rfl) (fun _ _ _ h => h) (Or.inl ⟨by rfl, ?_⟩) hHeld ?_ ?_
      rotate_left
      ·rintro w' ⟨s0, s1⟩
       go_simp
       with_reducible rfl
      rotate_left
      ·simp only [Act.put, z_lA, z_lZ, z_lS, i64_w, i32_w]
       rfl
      refine take_ (i := 1) (N := some 56) (v := ?_) (a' := ?_) #[true, true, false, false, false] rfl rfl (by kernel_rfl) (fun _ _ _ h => h) (Or.inl ⟨by rfl, ?_⟩) hHeld ?_ ?_
      rotate_left
      ·rintro w' ⟨s0, s1⟩
       go_simp
       with_reducible rfl
      rotate_left
      ·simp only [Act.put, z_lA, z_lZ, z_lS, i64_w, i32_w]
       rfl
      refine one_ (i := 2) (N := some 57) #[true, true, true, false, false] rfl rfl (by kernel_rfl) (by decide) (fun K hK => ?_)
      refine goes_ Try.func26 (by kernel_rfl) rfl #[.agg #[.slice A0_0 l0_0.length c0_0]] (by rfl) rfl rfl (by (try simp only [List.map_toArray, List.map_cons, List.map_nil]); first | done | rfl | (simp only [List.length_drop, List.length_take]; rfl)) ?_
      with_reducible refine (laws_toArena.calls kj17 _ _ l0_0 t198 _ ?side1 ?side2 A73.out).mono ?_
      (case side1 => repeat (first | exact (Kd.C_below HR0_0.out HB.out) | (with_reducible refine Kd.C_alloc ?_ _) | (with_reducible refine Kd.C_drewN ?_ _) | (with_reducible refine Kd.C_drew ?_)))
      (case side2 => exact HC0_0.out)
      rintro e w79 ⟨v199, rfl, ho0, hb⟩
      refine ⟨_, rfl, ?_⟩
      have n0_ := z_aM (Kd.R_elder' (by (with_reducible repeat (first | apply z_rA | apply z_rN | apply z_rD)); exact HO_186000.out) (Kd.R_base ho0) hb)
      have n1_ := z_aM (Kd.R_elder' (by (with_reducible repeat (first | apply z_rA | apply z_rN | apply z_rD)); exact HO_190000.out) (Kd.R_base ho0) hb)
      have n2_ := z_aM (Kd.R_elder' (by (with_reducible repeat (first | apply z_rA | apply z_rN | apply z_rD)); exact HO_197000.out) (Kd.R_base ho0) hb)
      have n3_ := z_aM (Kd.R_lower (Kd.R_new' (Kd.R_new' (Kd.R_new' ho0 (z_rL (by (with_reducible repeat (first | apply z_rA | apply z_rN | apply z_rD)); exact HO_186000.out))) (z_rL (by (with_reducible repeat (first | apply z_rA | apply z_rN | apply z_rD)); exact HO_190000.out))) (z_rL (by (with_reducible repeat (first | apply z_rA | apply z_rN | apply z_rD)); exact HO_197000.out))) (z_bZ (by repeat (first | (with_reducible first | exact HB.out | apply z_bA | apply z_bN | apply z_bD | refine z_bS ?_ GE173.out | refine z_bS ?_ GE174.out | refine z_bS ?_ GE185.out | refine z_bS ?_ GE189.out | refine z_bS ?_ GE196.out) | exact HB.out))))
      have n4_ := z_aM (z_kB (by (with_reducible repeat (first | apply z_kN | apply z_kD | apply z_kA)); exact BK173.out) hb)
      have n5_ := z_aM (z_kB (by (with_reducible repeat (first | apply z_kN | apply z_kD | apply z_kA)); exact BK174.out) hb)
      have n6_ := z_aM (z_kB (by (with_reducible repeat (first | apply z_kN | apply z_kD | apply z_kA)); exact BK185.out) hb)
      have n7_ := z_aM (z_kB (by (with_reducible repeat (first | apply z_kN | apply z_kD | apply z_kA)); exact BK189.out) hb)
      have n8_ := z_aM (z_kB (by (with_reducible repeat (first | apply z_kN | apply z_kD | apply z_kA)); exact BK196.out) hb)
      have n9_ := z_aM (z_bT (by repeat (first | (with_reducible first | exact HB.out | apply z_bA | apply z_bN | apply z_bD | refine z_bS ?_ GE173.out | refine z_bS ?_ GE174.out | refine z_bS ?_ GE185.out | refine z_bS ?_ GE189.out | refine z_bS ?_ GE196.out) | exact HB.out)) hb)
      clear HO_186000
      clear HO_190000
      clear HO_197000
      clear BK173
      clear BK174
      clear BK185
      clear BK189
      clear BK196
      clear HB
      have HO_186000 := n0_
      have HO_190000 := n1_
      have HO_197000 := n2_
      have HO200 := n3_
      have BK173 := n4_
      have BK174 := n5_
      have BK185 := n6_
      have BK189 := n7_
      have BK196 := n8_
      have HB := n9_
      clear n0_ n1_ n2_ n3_ n4_ n5_ n6_ n7_ n8_ n9_
      (try clear hb)
      (try clear hb2)
      (try clear hk)
      (try clear hi)
      (try clear ho0)
      obtain ⟨Ao80, co80, eo80⟩ := Kd.R_slice HO200.out
      (first | subst eo80 | (injection eo80 with f1_ f2_ f3_; have f4_ := f1_.symm; have f5_ := f3_.symm; clear f1_ f2_ f3_; subst f4_; subst f5_))
      refine hK.out _ _ ⟨(z_kC BK189.out 0).trans rfl, (z_kC BK173.out 0).trans rfl⟩ (fun hHeld => ?_)
      clear hK K
      refine norm_ (a' := ?_) ?_ ?_
      rotate_left
      ·show Act.put _ (some 57) _ = _
       simp only [Act.put, z_lA, z_lZ, z_lS, i64_w, i32_w]
       rfl
      refine one_ (i := 3) (N := some 58) #[true, true, true, true, false] rfl rfl (by kernel_rfl) (by decide) (fun K hK => ?_)
      refine goes_ Try.func28 (by kernel_rfl) rfl #[.agg #[.slice Ao37 t186.length co37], .agg #[.slice Ao80 t198.length co80]] (by rfl) rfl rfl (by (try simp only [List.map_toArray, List.map_cons, List.map_nil]); first | done | rfl | (simp only [List.length_drop, List.length_take]; rfl)) ?_
      with_reducible refine (laws_eqArena.calls kj17 _ _ t186 _ _ t198 true _ ?side1 ?side2 ?side3 ?side4 A74.out).mono ?_
      (case side1 => repeat (first | exact (Kd.R_reads' HO_190000.out).2.2 | (with_reducible refine Kd.C_alloc ?_ _) | (with_reducible refine Kd.C_drewN ?_ _) | (with_reducible refine Kd.C_drew ?_)))
      (case side2 => exact (Kd.R_reads' HO_190000.out).2.1)
      (case side3 => repeat (first | exact (Kd.R_reads' HO200.out).2.2 | (with_reducible refine Kd.C_alloc ?_ _) | (with_reducible refine Kd.C_drewN ?_ _) | (with_reducible refine Kd.C_drew ?_)))
      (case side4 => exact (Kd.R_reads' HO200.out).2.1)
      rintro e w81 ⟨rfl, hb⟩
      refine ⟨_, rfl, ?_⟩
      have n0_ := z_aM (z_rB (by (with_reducible repeat (first | apply z_rA | apply z_rN | apply z_rD)); exact HO_186000.out) hb)
      have n1_ := z_aM (z_rB (by (with_reducible repeat (first | apply z_rA | apply z_rN | apply z_rD)); exact HO_190000.out) hb)
      have n2_ := z_aM (z_rB (by (with_reducible repeat (first | apply z_rA | apply z_rN | apply z_rD)); exact HO_197000.out) hb)
      have n3_ := z_aM (z_rB (by (with_reducible repeat (first | apply z_rA | apply z_rN | apply z_rD)); exact HO200.out) hb)
      have n4_ := z_aM (z_kB (by (with_reducible repeat (first | apply z_kN | apply z_kD | apply z_kA)); exact BK173.out) hb)
      have n5_ := z_aM (z_kB (by (with_reducible repeat (first | apply z_kN | apply z_kD | apply z_kA)); exact BK174.out) hb)
      have n6_ := z_aM (z_kB (by (with_reducible repeat (first | apply z_kN | apply z_kD | apply z_kA)); exact BK185.out) hb)
      have n7_ := z_aM (z_kB (by (with_reducible repeat (first | apply z_kN | apply z_kD | apply z_kA)); exact BK189.out) hb)
      have n8_ := z_aM (z_kB (by (with_reducible repeat (first | apply z_kN | apply z_kD | apply z_kA)); exact BK196.out) hb)
      have n9_ := z_aM (z_bT (by repeat (first | (with_reducible first | exact HB.out | apply z_bA | apply z_bN | apply z_bD | refine z_bS ?_ GE173.out | refine z_bS ?_ GE174.out | refine z_bS ?_ GE185.out | refine z_bS ?_ GE189.out | refine z_bS ?_ GE196.out) | exact HB.out)) hb)
      clear HO_186000
      clear HO_190000
      clear HO_197000
      clear HO200
      clear BK173
      clear BK174
      clear BK185
      clear BK189
      clear BK196
      clear HB
      have HO_186000 := n0_
      have HO_190000 := n1_
      have HO_197000 := n2_
      have HO200 := n3_
      have BK173 := n4_
      have BK174 := n5_
      have BK185 := n6_
      have BK189 := n7_
      have BK196 := n8_
      have HB := n9_
      clear n0_ n1_ n2_ n3_ n4_ n5_ n6_ n7_ n8_ n9_
      (try clear hb)
      (try clear hb2)
      (try clear hk)
      (try clear hi)
      refine hK.out _ _ ⟨(z_kC BK189.out 0).trans rfl, (z_kC BK173.out 0).trans rfl⟩ (fun hHeld => ?_)
      clear hK K
      refine norm_ (a' := ?_) ?_ ?_
      rotate_left
      ·show Act.put _ (some 58) _ = _
       simp only [Act.put, z_lA, z_lZ, z_lS, i64_w, i32_w]
       rfl
      refine pure_ (i := 4) (N := some 59) (v := ?_) (a' := ?_) #[true, true, true, true, true] rfl rfl (by kernel_rfl) (fun _ _ _ h => h) (Or.inl ⟨by rfl, ?_⟩) ?_ ?_
      rotate_left
      ·intro w'
       go_simp
       with_reducible rfl
      rotate_left
      ·simp only [Act.put, z_lA, z_lZ, z_lS, i64_w, i32_w]
       rfl
      refine done_ (by kernel_rfl) ?_
      have hnb82 := NB189_173.out
      have hnc82 := NB173_189.out
      have hnb83 := NB189_174.out
      have hnc83 := NB174_189.out
      have hnb84 := NB189_185.out
      have hnc84 := NB185_189.out
      have hnb85 := NB189_196.out
      have hnc85 := NB196_189.out
      have hcz86_0 : w81.cell? ⟨gb189, 0, none⟩ = some (.slice Ao37 t186.length co37) := (z_kC BK189.out 0).trans rfl
      have hfz86_0 := blk_frozen BK189.out 0
      go_upto_region 14 with (first | ((with_reducible refine gate_callee (f := 29) rfl ?_); refine goesL_ (some 62) rfl rfl Try.func29 (by kernel_rfl) rfl #[.agg #[.slice Ao37 t186.length co37], .int .i64 1] rfl (by (try simp only [List.map_toArray, List.map_cons, List.map_nil]); first | done | rfl | (simp only [List.length_drop, List.length_take]; rfl)) ?_; (with_reducible refine (laws_markArena.calls kj17 (fun k_ => some k_ = (.slice Ao37 t186.length co37 : Value).ownBlock) (.slice Ao37 t186.length co37) t186 1 t202 t203 w _ ?side1 ?side2 A76.out).mono ?_); (case side1 => repeat (first | (with_reducible first | exact HB.out | apply z_bA | apply z_bN | apply z_bD | refine z_bS ?_ GE173.out | refine z_bS ?_ GE174.out | refine z_bS ?_ GE185.out | refine z_bS ?_ GE189.out | refine z_bS ?_ GE196.out) | exact HB.out)); (case side2 => exact Kd.R_tight rfl HO_190000.out); rintro e w87 ⟨rfl, hy0, hb, hkp⟩; refine ⟨_, rfl, ?_⟩; have n0_ := z_aM (z_rM (ok' := fun k_ => some k_ ≠ (.slice Ao37 t186.length co37 : Value).ownBlock ∧ some k_ ≠ (.slice Ao48 t192.length co48 : Value).ownBlock ∧ some k_ ≠ (.slice Ao80 t198.length co80 : Value).ownBlock) (z_rK (HO_186000.out) hkp (fun k_ hk_ hs_ => (hk_.1.1) hs_)) (fun k_ hk_ => ⟨hk_.1.1.1, hk_.1.1.2, hk_.1.2⟩)); have n1_ := z_aM (Kd.R_reok rfl hy0 (fun k_ e_ => HO_190000.out.1 k_ e_)); have n2_ := z_aM (z_rM (ok' := fun k_ => some k_ ≠ (.slice Ao31 t181.length co31 : Value).ownBlock ∧ some k_ ≠ (.slice Ao37 t186.length co37 : Value).ownBlock ∧ some k_ ≠ (.slice Ao80 t198.length co80 : Value).ownBlock) (z_rK (HO_197000.out) hkp (fun k_ hk_ hs_ => (hk_.1.2) hs_)) (fun k_ hk_ => ⟨hk_.1.1.1, hk_.1.1.2, hk_.1.2⟩)); have n3_ := z_aM (z_kK (by (with_reducible repeat (first | apply z_kN | apply z_kD | apply z_kA)); exact BK173.out) hkp (fun hs_ => (fun e_ => (z_rE HO_190000.out BK173.out (by decide)) e_) hs_)); have n4_ := z_aM (z_kK (by (with_reducible repeat (first | apply z_kN | apply z_kD | apply z_kA)); exact BK174.out) hkp (fun hs_ => (fun e_ => (z_rE HO_190000.out BK174.out (by decide)) e_) hs_)); have n5_ := z_aM (z_kK (by (with_reducible repeat (first | apply z_kN | apply z_kD | apply z_kA)); exact BK185.out) hkp (fun hs_ => (fun e_ => (z_rE HO_190000.out BK185.out (by decide)) e_) hs_)); have n6_ := z_aM (z_kK (by (with_reducible repeat (first | apply z_kN | apply z_kD | apply z_kA)); exact BK189.out) hkp (fun hs_ => (fun e_ => (z_rE HO_190000.out BK189.out (by decide)) e_) hs_)); have n7_ := z_aM (z_kK (by (with_reducible repeat (first | apply z_kN | apply z_kD | apply z_kA)); exact BK196.out) hkp (fun hs_ => (fun e_ => (z_rE HO_190000.out BK196.out (by decide)) e_) hs_)); have n8_ := z_aM (z_rM (ok' := fun k_ => some k_ ≠ (.slice Ao31 t181.length co31 : Value).ownBlock ∧ some k_ ≠ (.slice Ao37 t186.length co37 : Value).ownBlock ∧ some k_ ≠ (.slice Ao48 t192.length co48 : Value).ownBlock) (z_rK (HO200.out) hkp (fun k_ hk_ hs_ => (hk_.1.2) hs_)) (fun k_ hk_ => ⟨hk_.1.1.1.2, hk_.1.1.2, hk_.1.2⟩)); have n9_ := z_aM (hb); clear HO_186000; clear HO_190000; clear HO_197000; clear BK173; clear BK174; clear BK185; clear BK189; clear BK196; clear HO200; clear HB; have HO_186000 := n0_; have HO_190000 := n1_; have HO_197000 := n2_; have BK173 := n3_; have BK174 := n4_; have BK185 := n5_; have BK189 := n6_; have BK196 := n7_; have HO200 := n8_; have HB := n9_; clear n0_ n1_ n2_ n3_ n4_ n5_ n6_ n7_ n8_ n9_; (try clear hb); (try clear hkp); (try clear hy0)))
      (try simp only [Act.put, z_lA, z_lZ, z_lS])
      go_cut [75] (fun v75 wc => ∃ (kq : Nat) (x75_76 : Bool), v75 = .bool x75_76 ∧ Aside0 (laws_FnExactStoreCell.j1 kq a2 a3 t184 x75_76 l0_0 a1_0 a1_1 t181 t192 = some r) ∧ Aside0 (kq ≤ kj17) ∧ Aside0 (Kd.R (Kd.int .i64) 3 wc w.heap.size (fun k_ => some k_ ≠ ((.slice Ao37 t186.length co37) : Value).ownBlock ∧ some k_ ≠ ((.slice Ao48 t192.length co48) : Value).ownBlock) (.slice Ao31 t181.length co31) t181) ∧ Aside0 (Kd.R (Kd.int .i64) 3 wc w.heap.size (fun k_ => some k_ ≠ ((.slice Ao31 t181.length co31) : Value).ownBlock ∧ some k_ ≠ ((.slice Ao48 t192.length co48) : Value).ownBlock) (.slice Ao37 t186.length co37) t203) ∧ Aside0 (Kd.R (Kd.int .i64) 3 wc w.heap.size (fun k_ => some k_ ≠ ((.slice Ao31 t181.length co31) : Value).ownBlock ∧ some k_ ≠ ((.slice Ao37 t186.length co37) : Value).ownBlock) (.slice Ao48 t192.length co48) t192) ∧ Aside0 (wc.heap[gb173]? = some (.cells #[(.slice A0_0 l0_0.length c0_0)] 41 (0, 0))) ∧ Aside0 (wc.heap[gb174]? = some (.cells #[.int .i64 a1_0, .int .i64 a1_1] 42 (0, 0))) ∧ Aside0 (wc.heap[gb185]? = some (.cells #[(.slice Ao31 t181.length co31)] 29 (0, 0))) ∧ Aside0 (wc.heap[gb189]? = some (.cells #[(.slice Ao37 t186.length co37)] 29 (0, 0))) ∧ Aside0 (wc.heap[gb196]? = some (.cells #[(.slice Ao48 t192.length co48)] 29 (0, 0))) ∧ Aside0 (Below w.heap.size w wc))
      case first =>
       have H := HC77.out
       clear HC77
       by_cases c88 : t202 < 0
       ·rw [if_pos c88] at H
        have c88b0 : decide (t202 < 0) = true := decide_eq_true c88
        clear c88
        (first | rw [c88b0] | (simp only [i64_w, i32_w]; rw [c88b0]) | skip)
        exfalso
        rw [hrt.out] at H
        rcases kj17 with _ | kj17 <;> simp [laws_FnExactStoreCell.j1] at H
       ·rw [if_neg c88] at H
        have c88b0 : decide (t202 < 0) = false := decide_eq_false c88
        clear c88
        (first | rw [c88b0] | (simp only [i64_w, i32_w]; rw [c88b0]) | skip)
        replace H := Option.bind_eq_some_iff.mp H
        obtain ⟨t204, A890, H⟩ := H
        replace H : (if t204 = true then (laws_FnExactStoreCell.j1 kj17 a2 a3 t184 (t195 != t184) l0_0 a1_0 a1_1 t181 t192) else (laws_FnExactStoreCell.j1 kj17 a2 a3 t184 true l0_0 a1_0 a1_1 t181 t192)) = some r := H
        have A89 := z_aM A890
        clear A890
        by_cases c90 : t204 = true
        ·subst c90
         have H1 : (laws_FnExactStoreCell.j1 kj17 a2 a3 t184 (t195 != t184) l0_0 a1_0 a1_1 t181 t192) = some r := by rw [if_pos rfl] at H; exact H
         clear H
         have H := H1
         clear H1
         have H' := z_aM H
         clear H
         have hnb91 := NB196_173.out
         have hnc91 := NB173_196.out
         have hnb92 := NB196_174.out
         have hnc92 := NB174_196.out
         have hnb93 := NB196_185.out
         have hnc93 := NB185_196.out
         have hnb94 := NB196_189.out
         have hnc94 := NB189_196.out
         have hcz95_0 : w87.cell? ⟨gb196, 0, none⟩ = some (.slice Ao48 t192.length co48) := (z_kC BK196.out 0).trans rfl
         have hfz95_0 := blk_frozen BK196.out 0
         have hnb96 := NB185_173.out
         have hnc96 := NB173_185.out
         have hnb97 := NB185_174.out
         have hnc97 := NB174_185.out
         have hnb98 := NB185_189.out
         have hnc98 := NB189_185.out
         have hcz99_0 : w87.cell? ⟨gb185, 0, none⟩ = some (.slice Ao31 t181.length co31) := (z_kC BK185.out 0).trans rfl
         have hfz99_0 := blk_frozen BK185.out 0
         go_wp2_with (first | (go_at_call 28; (with_reducible refine (laws_eqArena.calls kj17 _ _ t192 _ _ t181 true _ ?side1 ?side2 ?side3 ?side4 A89.out).mono ?_); (case side1 => repeat (first | exact (Kd.R_reads' HO_197000.out).2.2 | (with_reducible refine Kd.C_alloc ?_ _) | (with_reducible refine Kd.C_drewN ?_ _) | (with_reducible refine Kd.C_drew ?_))); (case side2 => exact (Kd.R_reads' HO_197000.out).2.1); (case side3 => repeat (first | exact (Kd.R_reads' HO_186000.out).2.2 | (with_reducible refine Kd.C_alloc ?_ _) | (with_reducible refine Kd.C_drewN ?_ _) | (with_reducible refine Kd.C_drew ?_))); (case side4 => exact (Kd.R_reads' HO_186000.out).2.1); rintro e w100 ⟨rfl, hb⟩; have n0_ := z_aM (z_rB (by (with_reducible repeat (first | apply z_rA | apply z_rN | apply z_rD)); exact HO_186000.out) hb); have n1_ := z_aM (z_rB (by (with_reducible repeat (first | apply z_rA | apply z_rN | apply z_rD)); exact HO_190000.out) hb); have n2_ := z_aM (z_rB (by (with_reducible repeat (first | apply z_rA | apply z_rN | apply z_rD)); exact HO_197000.out) hb); have n3_ := z_aM (z_rB (by (with_reducible repeat (first | apply z_rA | apply z_rN | apply z_rD)); exact HO200.out) hb); have n4_ := z_aM (z_kB (by (with_reducible repeat (first | apply z_kN | apply z_kD | apply z_kA)); exact BK173.out) hb); have n5_ := z_aM (z_kB (by (with_reducible repeat (first | apply z_kN | apply z_kD | apply z_kA)); exact BK174.out) hb); have n6_ := z_aM (z_kB (by (with_reducible repeat (first | apply z_kN | apply z_kD | apply z_kA)); exact BK185.out) hb); have n7_ := z_aM (z_kB (by (with_reducible repeat (first | apply z_kN | apply z_kD | apply z_kA)); exact BK189.out) hb); have n8_ := z_aM (z_kB (by (with_reducible repeat (first | apply z_kN | apply z_kD | apply z_kA)); exact BK196.out) hb); have n9_ := z_aM (z_bT (by repeat (first | (with_reducible first | exact HB.out | apply z_bA | apply z_bN | apply z_bD | refine z_bS ?_ GE173.out | refine z_bS ?_ GE174.out | refine z_bS ?_ GE185.out | refine z_bS ?_ GE189.out | refine z_bS ?_ GE196.out) | exact HB.out)) hb); clear HO_186000; clear HO_190000; clear HO_197000; clear HO200; clear BK173; clear BK174; clear BK185; clear BK189; clear BK196; clear HB; have HO_186000 := n0_; have HO_190000 := n1_; have HO_197000 := n2_; have HO200 := n3_; have BK173 := n4_; have BK174 := n5_; have BK185 := n6_; have BK189 := n7_; have BK196 := n8_; have HB := n9_; clear n0_ n1_ n2_ n3_ n4_ n5_ n6_ n7_ n8_ n9_; (try clear hb); (try clear hb2); (try clear hk); (try clear hi)))
         go_meet
         case rel => exact ⟨_, ((t195 != t184)), (by first | rfl | (simp; done) | (simp [*]; done)), H', ⟨by have := HJ17.out; first | omega | exact Nat.le_refl _⟩, ⟨by (with_reducible repeat (first | apply z_rA | apply z_rN | apply z_rD)); exact z_rM HO_186000.out (fun _ hk => ⟨hk.1, hk.2.1⟩)⟩, ⟨by (with_reducible repeat (first | apply z_rA | apply z_rN | apply z_rD)); exact z_rM HO_190000.out (fun _ hk => ⟨hk.1.1, hk.1.2⟩)⟩, ⟨by (with_reducible repeat (first | apply z_rA | apply z_rN | apply z_rD)); exact z_rM HO_197000.out (fun _ hk => ⟨hk.1, hk.2.1⟩)⟩, ⟨by (with_reducible repeat (first | apply z_kN | apply z_kD | apply z_kA)); exact BK173.out⟩, ⟨by (with_reducible repeat (first | apply z_kN | apply z_kD | apply z_kA)); exact BK174.out⟩, ⟨by (with_reducible repeat (first | apply z_kN | apply z_kD | apply z_kA)); exact BK185.out⟩, ⟨by (with_reducible repeat (first | apply z_kN | apply z_kD | apply z_kA)); exact BK189.out⟩, ⟨by (with_reducible repeat (first | apply z_kN | apply z_kD | apply z_kA)); exact BK196.out⟩, ⟨by repeat (first | (with_reducible first | exact HB.out | apply z_bA | apply z_bN | apply z_bD | refine z_bS ?_ GE173.out | refine z_bS ?_ GE174.out | refine z_bS ?_ GE185.out | refine z_bS ?_ GE189.out | refine z_bS ?_ GE196.out) | exact HB.out)⟩⟩
        ·replace c90 := Bool.eq_false_iff.mpr c90
         subst c90
         have H1 : (laws_FnExactStoreCell.j1 kj17 a2 a3 t184 true l0_0 a1_0 a1_1 t181 t192) = some r := by rw [if_neg (show ¬ (false = true) by decide)] at H; exact H
         clear H
         have H := H1
         clear H1
         exfalso
         rw [hrt.out] at H
         rcases kj17 with _ | kj17 <;> simp [laws_FnExactStoreCell.j1] at H
      case rest =>
       clear HC77
       try clear c1
       try clear c2
       try clear p2
       try clear c5
       try clear c6
       try clear c7
       try clear c8
       try clear c9
       try clear c10
       try clear c17
       try clear c26
       try clear c27
       try clear c28
       try clear c29
       try clear c51
       try clear c52
       try clear c53
       try clear c54
       try clear c55
       try clear c57
       try clear c58
       try clear c59
       try clear c62
       try clear c63
       try clear c64
       try clear c65
       try clear c67
       try clear c68
       try clear c69
       try clear c72
       try clear c75
       try clear c82
       try clear c83
       try clear c84
       try clear c85
       try clear c88
       try clear c88b0
       try clear c90
       try clear c91
       try clear c92
       try clear c93
       try clear c94
       try clear c96
       try clear c97
       try clear c98
       try clear c101
       try clear c102
       try clear c103
       try clear c104
       try clear c106
       try clear c107
       try clear c108
       try clear hcz105_0
       try clear hcz109_0
       try clear hcz56_0
       try clear hcz60_0
       try clear hcz66_0
       try clear hcz70_0
       try clear hcz86_0
       try clear hcz95_0
       try clear hcz99_0
       try clear hfz105_0
       try clear hfz109_0
       try clear hfz56_0
       try clear hfz60_0
       try clear hfz66_0
       try clear hfz70_0
       try clear hfz86_0
       try clear hfz95_0
       try clear hfz99_0
       try clear p2
       obtain ⟨kq, x75_76, rfl, HA, HJ76, HO_186000, HO_190000, HO_197000, BK173, BK174, BK185, BK189, BK196, HB⟩ := hcut
       have hl190000_76 := (Kd.R_reads' HO_190000.out).1
       rw [hl190000_76] at HO_190000
       (try simp only [hl190000_76])
       (try simp only [hl190000_76] at BK173)
       (try simp only [hl190000_76] at BK174)
       (try simp only [hl190000_76] at BK185)
       (try simp only [hl190000_76] at BK189)
       (try simp only [hl190000_76] at BK196)
       (try simp only [hl190000_76] at HO_186000)
       (try simp only [hl190000_76] at HO_197000)
       cases kq with
       | zero => exact absurd HA.out (by simp [laws_FnExactStoreCell.j1])
       | succ kj76 =>
        have H := HA.out
        clear HA
        simp only [laws_FnExactStoreCell.j1] at H
        by_cases c111 : x75_76 = true
        ·subst c111
         have H1 : (some false) = some r := by rw [if_pos rfl] at H; exact H
         clear H
         have H := H1
         clear H1
         exact absurd (Option.some.inj H) (by rw [hrt.out]; decide)
        ·replace c111 := Bool.eq_false_iff.mpr c111
         subst c111
         have H1 : ((laws_markArena.f kj76 t192 1).bind fun bt205 => ((laws_heldArena.f kj76 bt205.2 1).bind fun t207 => (if t207 < 0 then (some false) else (if t207 = bt205.1 then ((laws_toArena.f kj76 l0_0).bind fun t208 => ((laws_toRegion.f a1_0 a1_1).bind fun bt211 => ((impl_StoreCell.f t208 bt211.1 bt211.2 a2 a3).bind fun bt213 => ((laws_eqArena.f kj76 bt213.1 t181).bind fun t218 => (if t218 = true then (laws_FnExactStoreCell.j2 kj76 bt205.1 (bt213.2 != t184) bt205.2) else (laws_FnExactStoreCell.j2 kj76 bt205.1 true bt205.2)))))) else (some false))))) = some r := by rw [if_neg (show ¬ (false = true) by decide)] at H; exact H
         clear H
         have H := H1
         clear H1
         replace H := Option.bind_eq_some_iff.mp H
         obtain ⟨⟨t205, t206⟩, A1120, H⟩ := H
         replace H : ((laws_heldArena.f kj76 t206 1).bind fun t207 => (if t207 < 0 then (some false) else (if t207 = t205 then ((laws_toArena.f kj76 l0_0).bind fun t208 => ((laws_toRegion.f a1_0 a1_1).bind fun bt211 => ((impl_StoreCell.f t208 bt211.1 bt211.2 a2 a3).bind fun bt213 => ((laws_eqArena.f kj76 bt213.1 t181).bind fun t218 => (if t218 = true then (laws_FnExactStoreCell.j2 kj76 t205 (bt213.2 != t184) t206) else (laws_FnExactStoreCell.j2 kj76 t205 true t206)))))) else (some false)))) = some r := H
         have A112 := z_aM A1120
         clear A1120
         replace H := Option.bind_eq_some_iff.mp H
         obtain ⟨t207, A1130, H⟩ := H
         replace H : (if t207 < 0 then (some false) else (if t207 = t205 then ((laws_toArena.f kj76 l0_0).bind fun t208 => ((laws_toRegion.f a1_0 a1_1).bind fun bt211 => ((impl_StoreCell.f t208 bt211.1 bt211.2 a2 a3).bind fun bt213 => ((laws_eqArena.f kj76 bt213.1 t181).bind fun t218 => (if t218 = true then (laws_FnExactStoreCell.j2 kj76 t205 (bt213.2 != t184) t206) else (laws_FnExactStoreCell.j2 kj76 t205 true t206)))))) else (some false))) = some r := H
         have A113 := z_aM A1130
         clear A1130
         by_cases c114 : t207 < 0
         ·rw [if_pos c114] at H
          have c114b0 : decide (t207 < 0) = true := decide_eq_true c114
          clear c114
          exact absurd (Option.some.inj H) (by rw [hrt.out]; decide)
         ·rw [if_neg c114] at H
          have c114b0 : decide (t207 < 0) = false := decide_eq_false c114
          clear c114
          by_cases c123 : t207 = t205
          ·rw [if_pos c123] at H
           have c123b0 : (t207 == t205) = true := beq_iff_eq.mpr c123
           have c123b1 : (t207 != t205) = false := bne_eq_false_iff_eq.mpr c123
           clear c123
           replace H := Option.bind_eq_some_iff.mp H
           obtain ⟨t208, A1240, H⟩ := H
           replace H : ((laws_toRegion.f a1_0 a1_1).bind fun bt211 => ((impl_StoreCell.f t208 bt211.1 bt211.2 a2 a3).bind fun bt213 => ((laws_eqArena.f kj76 bt213.1 t181).bind fun t218 => (if t218 = true then (laws_FnExactStoreCell.j2 kj76 t205 (bt213.2 != t184) t206) else (laws_FnExactStoreCell.j2 kj76 t205 true t206))))) = some r := H
           have A124 := z_aM A1240
           clear A1240
           replace H := Option.bind_eq_some_iff.mp H
           obtain ⟨⟨t211, t212⟩, A1250, H⟩ := H
           replace H : ((impl_StoreCell.f t208 t211 t212 a2 a3).bind fun bt213 => ((laws_eqArena.f kj76 bt213.1 t181).bind fun t218 => (if t218 = true then (laws_FnExactStoreCell.j2 kj76 t205 (bt213.2 != t184) t206) else (laws_FnExactStoreCell.j2 kj76 t205 true t206)))) = some r := H
           have A125 := z_aM A1250
           clear A1250
           replace H := Option.bind_eq_some_iff.mp H
           obtain ⟨⟨t213, t216⟩, A1260, H⟩ := H
           replace H : ((laws_eqArena.f kj76 t213 t181).bind fun t218 => (if t218 = true then (laws_FnExactStoreCell.j2 kj76 t205 (t216 != t184) t206) else (laws_FnExactStoreCell.j2 kj76 t205 true t206))) = some r := H
           have A126 := z_aM A1260
           clear A1260
           have HC127 := z_aM H
           clear H
           have hnb128 := NB196_173.out
           have hnc128 := NB173_196.out
           have hnb129 := NB196_174.out
           have hnc129 := NB174_196.out
           have hnb130 := NB196_185.out
           have hnc130 := NB185_196.out
           have hnb131 := NB196_189.out
           have hnc131 := NB189_196.out
           have hcz132_0 : wc.cell? ⟨gb196, 0, none⟩ = some (.slice Ao48 t192.length co48) := (z_kC BK196.out 0).trans rfl
           have hfz132_0 := blk_frozen BK196.out 0
           try go_wp2_with (first | ((with_reducible refine gate_callee (f := 29) rfl ?_); refine goesL_ (some 78) rfl rfl Try.func29 (by kernel_rfl) rfl #[.agg #[.slice Ao48 t192.length co48], .int .i64 1] rfl (by (try simp only [List.map_toArray, List.map_cons, List.map_nil]); first | done | rfl | (simp only [List.length_drop, List.length_take]; rfl)) ?_; (with_reducible refine (laws_markArena.calls kj76 (fun k_ => some k_ = (.slice Ao48 t192.length co48 : Value).ownBlock) (.slice Ao48 t192.length co48) t192 1 t205 t206 w _ ?side1 ?side2 A112.out).mono ?_); (case side1 => repeat (first | (with_reducible first | exact HB.out | apply z_bA | apply z_bN | apply z_bD | refine z_bS ?_ GE173.out | refine z_bS ?_ GE174.out | refine z_bS ?_ GE185.out | refine z_bS ?_ GE189.out | refine z_bS ?_ GE196.out) | exact HB.out)); (case side2 => exact Kd.R_tight rfl HO_197000.out); rintro e w133 ⟨rfl, hy0, hb, hkp⟩; refine ⟨_, rfl, ?_⟩; have n0_ := z_aM (z_rM (ok' := fun k_ => some k_ ≠ (.slice Ao37 t203.length co37 : Value).ownBlock ∧ some k_ ≠ (.slice Ao48 t192.length co48 : Value).ownBlock) (z_rK (HO_186000.out) hkp (fun k_ hk_ hs_ => (hk_.2) hs_)) (fun k_ hk_ => ⟨hk_.1.1, hk_.1.2⟩)); have n1_ := z_aM (z_rM (ok' := fun k_ => some k_ ≠ (.slice Ao31 t181.length co31 : Value).ownBlock ∧ some k_ ≠ (.slice Ao48 t192.length co48 : Value).ownBlock) (z_rK (HO_190000.out) hkp (fun k_ hk_ hs_ => (hk_.2) hs_)) (fun k_ hk_ => ⟨hk_.1.1, hk_.1.2⟩)); have n2_ := z_aM (Kd.R_reok rfl hy0 (fun k_ e_ => HO_197000.out.1 k_ e_)); have n3_ := z_aM (z_kK (by (with_reducible repeat (first | apply z_kN | apply z_kD | apply z_kA)); exact BK173.out) hkp (fun hs_ => (fun e_ => (z_rE HO_197000.out BK173.out (by decide)) e_) hs_)); have n4_ := z_aM (z_kK (by (with_reducible repeat (first | apply z_kN | apply z_kD | apply z_kA)); exact BK174.out) hkp (fun hs_ => (fun e_ => (z_rE HO_197000.out BK174.out (by decide)) e_) hs_)); have n5_ := z_aM (z_kK (by (with_reducible repeat (first | apply z_kN | apply z_kD | apply z_kA)); exact BK185.out) hkp (fun hs_ => (fun e_ => (z_rE HO_197000.out BK185.out (by decide)) e_) hs_)); have n6_ := z_aM (z_kK (by (with_reducible repeat (first | apply z_kN | apply z_kD | apply z_kA)); exact BK189.out) hkp (fun hs_ => (fun e_ => (z_rE HO_197000.out BK189.out (by decide)) e_) hs_)); have n7_ := z_aM (z_kK (by (with_reducible repeat (first | apply z_kN | apply z_kD | apply z_kA)); exact BK196.out) hkp (fun hs_ => (fun e_ => (z_rE HO_197000.out BK196.out (by decide)) e_) hs_)); have n8_ := z_aM (hb); clear HO_186000; clear HO_190000; clear HO_197000; clear BK173; clear BK174; clear BK185; clear BK189; clear BK196; clear HB; have HO_186000 := n0_; have HO_190000 := n1_; have HO_197000 := n2_; have BK173 := n3_; have BK174 := n4_; have BK185 := n5_; have BK189 := n6_; have BK196 := n7_; have HB := n8_; clear n0_ n1_ n2_ n3_ n4_ n5_ n6_ n7_ n8_; (try clear hb); (try clear hkp); (try clear hy0); have hcz134_0 : w133.cell? ⟨gb196, 0, none⟩ = some (.slice Ao48 t192.length co48) := (z_kC BK196.out 0).trans rfl; have hfz134_0 := blk_frozen BK196.out 0) | ((with_reducible refine gate_callee (f := 30) rfl ?_); refine goesL_ (some 81) rfl rfl Try.func30 (by kernel_rfl) rfl #[.agg #[.slice Ao48 t206.length co48], .int .i64 1] rfl (by (try simp only [List.map_toArray, List.map_cons, List.map_nil]); first | done | (rw [show t206.length = t192.length from (Kd.R_reads' HO_197000.out).1.symm] <;> rfl) | rfl | (simp only [List.length_drop, List.length_take]; rfl)) ?_; (with_reducible refine (laws_heldArena.calls kj76 _ _ t206 1 t207 _ ?side1 ?side2 A113.out).mono ?_); (case side1 => repeat (first | exact (Kd.R_reads' HO_197000.out).2.2 | (with_reducible refine Kd.C_alloc ?_ _) | (with_reducible refine Kd.C_drewN ?_ _) | (with_reducible refine Kd.C_drew ?_))); (case side2 => rw [show t206.length = t192.length from (Kd.R_reads' HO_197000.out).1.symm]; exact (Kd.R_reads' HO_197000.out).2.1); rintro e w135 ⟨rfl, hb⟩; refine ⟨_, rfl, ?_⟩; have n0_ := z_aM (z_rB (by (with_reducible repeat (first | apply z_rA | apply z_rN | apply z_rD)); exact HO_186000.out) hb); have n1_ := z_aM (z_rB (by (with_reducible repeat (first | apply z_rA | apply z_rN | apply z_rD)); exact HO_190000.out) hb); have n2_ := z_aM (z_rB (by (with_reducible repeat (first | apply z_rA | apply z_rN | apply z_rD)); exact HO_197000.out) hb); have n3_ := z_aM (z_kB (by (with_reducible repeat (first | apply z_kN | apply z_kD | apply z_kA)); exact BK173.out) hb); have n4_ := z_aM (z_kB (by (with_reducible repeat (first | apply z_kN | apply z_kD | apply z_kA)); exact BK174.out) hb); have n5_ := z_aM (z_kB (by (with_reducible repeat (first | apply z_kN | apply z_kD | apply z_kA)); exact BK185.out) hb); have n6_ := z_aM (z_kB (by (with_reducible repeat (first | apply z_kN | apply z_kD | apply z_kA)); exact BK189.out) hb); have n7_ := z_aM (z_kB (by (with_reducible repeat (first | apply z_kN | apply z_kD | apply z_kA)); exact BK196.out) hb); have n8_ := z_aM (z_bT (by repeat (first | (with_reducible first | exact HB.out | apply z_bA | apply z_bN | apply z_bD | refine z_bS ?_ GE173.out | refine z_bS ?_ GE174.out | refine z_bS ?_ GE185.out | refine z_bS ?_ GE189.out | refine z_bS ?_ GE196.out) | exact HB.out)) hb); clear HO_186000; clear HO_190000; clear HO_197000; clear BK173; clear BK174; clear BK185; clear BK189; clear BK196; clear HB; have HO_186000 := n0_; have HO_190000 := n1_; have HO_197000 := n2_; have BK173 := n3_; have BK174 := n4_; have BK185 := n5_; have BK189 := n6_; have BK196 := n7_; have HB := n8_; clear n0_ n1_ n2_ n3_ n4_ n5_ n6_ n7_ n8_; (try clear hb); (try clear hb2); (try clear hk); (try clear hi)))
           have n0_ := z_aM (z_rD HO_186000.out)
           have n1_ := z_aM (z_rD HO_190000.out)
           have n2_ := z_aM (z_rD HO_197000.out)
           have n3_ := z_aM (z_kD BK173.out)
           have n4_ := z_aM (z_kD BK174.out)
           have n5_ := z_aM (z_kD BK185.out)
           have n6_ := z_aM (z_kD BK189.out)
           have n7_ := z_aM (z_kD BK196.out)
           have n8_ := z_aM (z_bD HB.out)
           clear HO_186000
           clear HO_190000
           clear HO_197000
           clear BK173
           clear BK174
           clear BK185
           clear BK189
           clear BK196
           clear HB
           have HO_186000 := n0_
           have HO_190000 := n1_
           have HO_197000 := n2_
           have BK173 := n3_
           have BK174 := n4_
           have BK185 := n5_
           have BK189 := n6_
           have BK196 := n7_
           have HB := n8_
           clear n0_ n1_ n2_ n3_ n4_ n5_ n6_ n7_ n8_
           refine start_ (n := 13) (S := fun w' => w'.cell? ⟨gb173, 0, none⟩ = some (.slice A0_0 l0_0.length c0_0) ∧ w'.cell? ⟨gb174, 0, none⟩ = some (.int .i64 a1_0) ∧ w'.cell? ⟨gb174, 1, none⟩ = some (.int .i64 a1_1)) (ds := []) #[false, false, false, false, false, false, false, false, false, false, false, false, false] (by kernel_rfl) rfl rfl ⟨(z_kC BK173.out 0).trans rfl, (z_kC BK174.out 0).trans rfl, (z_kC BK174.out 1).trans rfl⟩ (fun hHeld => ?_); refine with_tabW laws_FnExactStoreCell.tab24 laws_FnExactStoreCell.bits24 (fun HT_ HW_ => ?_)
           generalize w135.drew = w136 at HO_186000 HO_190000 HO_197000 BK173 BK174 BK185 BK189 BK196 HB hHeld ⊢
           refine pure_ (i := 4) (N := some 92) (v := ?_) (a' := ?_) #[false, false, false, false, true, false, false, false, false, false, false, false, false] rfl rfl (any_of HT_.out (by kernel_rfl)) (fun _ _ _ h => h) (Or.inl ⟨by rfl, ?_⟩) ?_ ?_
           rotate_left
           ·intro w'
            go_simp
            with_reducible rfl
           rotate_left
           ·simp only [Act.put, z_lA, z_lZ, z_lS, i64_w, i32_w]
            rfl
           refine pure_ (i := 5) (N := some 93) (v := ?_) (a' := ?_) #[false, false, false, false, true, true, false, false, false, false, false, false, false] rfl rfl (any_of HT_.out (by kernel_rfl)) (fun _ _ _ h => h) (Or.inl ⟨by rfl, ?_⟩) ?_ ?_
           rotate_left
           ·intro w'
            go_simp
            with_reducible rfl
           rotate_left
           ·simp only [Act.put, z_lA, z_lZ, z_lS, i64_w, i32_w]
            rfl
           refine take_ (i := 0) (N := some 88) (v := ?_) (a' := ?_) #[true, false, false, false, true, true, false, false, false, false, false, false, false] rfl rfl (take_ofW HT_.out HW_.out (by kernel_rfl)) (fun _ _ _ h => h) (Or.inl ⟨by rfl, ?_⟩) hHeld ?_ ?_
           rotate_left
           ·rintro w' ⟨s0, s1, s2⟩
            go_simp
            with_reducible rfl
           rotate_left
           ·simp only [Act.put, z_lA, z_lZ, z_lS, i64_w, i32_w]
            rfl
           refine take_ (i := 2) (N := some 90) (v := ?_) (a' := ?_) #[true, false, true, false, true, true, false, false, false, false, false, false, false] rfl rfl (take_ofW HT_.out HW_.out (by kernel_rfl)) (fun _ _ _ h => h) (Or.inl ⟨by rfl, ?_⟩) hHeld ?_ ?_
           rotate_left
           ·rintro w' ⟨s0, s1, s2⟩
            go_simp
            with_reducible rfl
           rotate_left
           ·simp only [Act.put, z_lA, z_lZ, z_lS, i64_w, i32_w]
            rfl
           refine join_ (σ := Value × Value × Nat) 2 #[true, true, true, true, true, true, true, true, true, true, true, false, false] (fun s_ => [(89, .agg #[s_.1]), (91, .agg #[.int .i64 t211, .int .i64 t212]), (94, .tuple #[.agg #[s_.2.1], .bool t216]), (18, .pointer (some ⟨s_.2.2, 0, none⟩)), (87, .tuple #[.agg #[s_.2.1], .bool t216]), (95, .agg #[s_.2.1]), (96, .bool t216)]) (fun s_ w' => (w'.cell? ⟨gb173, 0, none⟩ = some (.slice A0_0 l0_0.length c0_0) ∧ w'.cell? ⟨gb174, 0, none⟩ = some (.int .i64 a1_0) ∧ w'.cell? ⟨gb174, 1, none⟩ = some (.int .i64 a1_1)) ∧ (Kd.R (Kd.int .i64) 3 w' w.heap.size (fun k_ => some k_ ≠ (s_.2.1 : Value).ownBlock ∧ some k_ ≠ (.slice Ao31 t181.length co31 : Value).ownBlock ∧ some k_ ≠ (.slice Ao37 t203.length co37 : Value).ownBlock ∧ some k_ ≠ (.slice Ao48 t192.length co48 : Value).ownBlock) s_.1 t208) ∧ (Kd.R (Kd.int .i64) 3 w' w.heap.size (fun k_ => some k_ ≠ (s_.1 : Value).ownBlock ∧ some k_ ≠ (.slice Ao31 t181.length co31 : Value).ownBlock ∧ some k_ ≠ (.slice Ao37 t203.length co37 : Value).ownBlock ∧ some k_ ≠ (.slice Ao48 t192.length co48 : Value).ownBlock) s_.2.1 t213) ∧ (Kd.R (Kd.int .i64) 3 w' w.heap.size (fun k_ => some k_ ≠ (s_.1 : Value).ownBlock ∧ some k_ ≠ (s_.2.1 : Value).ownBlock ∧ some k_ ≠ (.slice Ao37 t203.length co37 : Value).ownBlock ∧ some k_ ≠ (.slice Ao48 t192.length co48 : Value).ownBlock) (.slice Ao31 t181.length co31) t181) ∧ (Kd.R (Kd.int .i64) 3 w' w.heap.size (fun k_ => some k_ ≠ (s_.1 : Value).ownBlock ∧ some k_ ≠ (s_.2.1 : Value).ownBlock ∧ some k_ ≠ (.slice Ao31 t181.length co31 : Value).ownBlock ∧ some k_ ≠ (.slice Ao48 t192.length co48 : Value).ownBlock) (.slice Ao37 t203.length co37) t203) ∧ (Kd.R (Kd.int .i64) 3 w' w.heap.size (fun k_ => some k_ ≠ (s_.1 : Value).ownBlock ∧ some k_ ≠ (s_.2.1 : Value).ownBlock ∧ some k_ ≠ (.slice Ao31 t181.length co31 : Value).ownBlock ∧ some k_ ≠ (.slice Ao37 t203.length co37 : Value).ownBlock) (.slice Ao48 t192.length co48) t206) ∧ (w'.heap[gb173]? = some (.cells #[.slice A0_0 l0_0.length c0_0] 41 (0, 0))) ∧ (w'.heap[gb174]? = some (.cells #[.int .i64 a1_0, .int .i64 a1_1] 42 (0, 0))) ∧ (w'.heap[gb185]? = some (.cells #[.slice Ao31 t181.length co31] 29 (0, 0))) ∧ (w'.heap[gb189]? = some (.cells #[.slice Ao37 t203.length co37] 29 (0, 0))) ∧ (w'.heap[gb196]? = some (.cells #[.slice Ao48 t192.length co48] 29 (0, 0))) ∧ (w'.heap[s_.2.2]? = some (.cells #[.slice none 0 0] 29 (0, 0))) ∧ (w.heap.size ≤ s_.2.2) ∧ (w.heap.size ≤ s_.2.2) ∧ (gb173 ≠ s_.2.2) ∧ (s_.2.2 ≠ gb173) ∧ (gb174 ≠ s_.2.2) ∧ (s_.2.2 ≠ gb174) ∧ (gb185 ≠ s_.2.2) ∧ (s_.2.2 ≠ gb185) ∧ (gb189 ≠ s_.2.2) ∧ (s_.2.2 ≠ gb189) ∧ (gb196 ≠ s_.2.2) ∧ (s_.2.2 ≠ gb196) ∧ (Below w.heap.size w w')) ?_ ?_
           rotate_left
           ·intro hCont
            refine two_ (i := 1) (j := 10) (Ni := some 89) (Nj := some 18) #[true, true, true, false, true, true, false, false, false, false, false, false, false] #[true, false, true, false, true, true, false, false, false, false, true, false, false] rfl rfl rfl rfl (two_of HT_.out (by kernel_rfl)) (by decide) (by decide) (fun K hK => ?_) (fun K hK => ?_)
            ·skip
             refine goes_ Try.func26 (by kernel_rfl) rfl #[.agg #[.slice A0_0 l0_0.length c0_0]] (by rfl) rfl rfl (by (try simp only [List.map_toArray, List.map_cons, List.map_nil]); first | done | rfl | (simp only [List.length_drop, List.length_take]; rfl)) ?_
             with_reducible refine (laws_toArena.calls kj76 _ _ l0_0 t208 _ ?side1 ?side2 A124.out).mono ?_
             (case side1 => repeat (first | exact (Kd.C_below HR0_0.out HB.out) | (with_reducible refine Kd.C_alloc ?_ _) | (with_reducible refine Kd.C_drewN ?_ _) | (with_reducible refine Kd.C_drew ?_)))
             (case side2 => exact HC0_0.out)
             rintro e w137 ⟨v209, rfl, ho0, hb⟩
             refine ⟨_, rfl, ?_⟩
             have n0_ := z_aM (Kd.R_elder' (by (with_reducible repeat (first | apply z_rA | apply z_rN | apply z_rD)); exact HO_186000.out) (Kd.R_base ho0) hb)
             have n1_ := z_aM (Kd.R_elder' (by (with_reducible repeat (first | apply z_rA | apply z_rN | apply z_rD)); exact HO_190000.out) (Kd.R_base ho0) hb)
             have n2_ := z_aM (Kd.R_elder' (by (with_reducible repeat (first | apply z_rA | apply z_rN | apply z_rD)); exact HO_197000.out) (Kd.R_base ho0) hb)
             have n3_ := z_aM (Kd.R_lower (Kd.R_new' (Kd.R_new' (Kd.R_new' ho0 (z_rL (by (with_reducible repeat (first | apply z_rA | apply z_rN | apply z_rD)); exact HO_186000.out))) (z_rL (by (with_reducible repeat (first | apply z_rA | apply z_rN | apply z_rD)); exact HO_190000.out))) (z_rL (by (with_reducible repeat (first | apply z_rA | apply z_rN | apply z_rD)); exact HO_197000.out))) (z_bZ (by repeat (first | (with_reducible first | exact HB.out | apply z_bA | apply z_bN | apply z_bD | refine z_bS ?_ GE173.out | refine z_bS ?_ GE174.out | refine z_bS ?_ GE185.out | refine z_bS ?_ GE189.out | refine z_bS ?_ GE196.out) | exact HB.out))))
             have n4_ := z_aM (z_kB (by (with_reducible repeat (first | apply z_kN | apply z_kD | apply z_kA)); exact BK173.out) hb)
             have n5_ := z_aM (z_kB (by (with_reducible repeat (first | apply z_kN | apply z_kD | apply z_kA)); exact BK174.out) hb)
             have n6_ := z_aM (z_kB (by (with_reducible repeat (first | apply z_kN | apply z_kD | apply z_kA)); exact BK185.out) hb)
             have n7_ := z_aM (z_kB (by (with_reducible repeat (first | apply z_kN | apply z_kD | apply z_kA)); exact BK189.out) hb)
             have n8_ := z_aM (z_kB (by (with_reducible repeat (first | apply z_kN | apply z_kD | apply z_kA)); exact BK196.out) hb)
             have n9_ := z_aM (z_bT (by repeat (first | (with_reducible first | exact HB.out | apply z_bA | apply z_bN | apply z_bD | refine z_bS ?_ GE173.out | refine z_bS ?_ GE174.out | refine z_bS ?_ GE185.out | refine z_bS ?_ GE189.out | refine z_bS ?_ GE196.out) | exact HB.out)) hb)
             clear HO_186000
             clear HO_190000
             clear HO_197000
             clear BK173
             clear BK174
             clear BK185
             clear BK189
             clear BK196
             clear HB
             have HO_186000 := n0_
             have HO_190000 := n1_
             have HO_197000 := n2_
             have HO210 := n3_
             have BK173 := n4_
             have BK174 := n5_
             have BK185 := n6_
             have BK189 := n7_
             have BK196 := n8_
             have HB := n9_
             clear n0_ n1_ n2_ n3_ n4_ n5_ n6_ n7_ n8_ n9_
             (try clear hb)
             (try clear hb2)
             (try clear hk)
             (try clear hi)
             (try clear ho0)
             refine hK.out _ _ ⟨(z_kC BK173.out 0).trans rfl, (z_kC BK174.out 0).trans rfl, (z_kC BK174.out 1).trans rfl⟩ (fun hHeld => ?_)
             clear hK K
             refine norm_ (a' := ?_) ?_ ?_
             rotate_left
             ·show Act.put _ (some 89) _ = _
              simp only [Act.put, z_lA, z_lZ, z_lS, i64_w, i32_w]
              rfl
             refine two_ (i := 3) (j := 10) (Ni := some 91) (Nj := some 18) #[true, true, true, true, true, true, false, false, false, false, false, false, false] #[true, true, true, false, true, true, false, false, false, false, true, false, false] rfl rfl rfl rfl (two_of HT_.out (by kernel_rfl)) (by decide) (by decide) (fun K hK => ?_) (fun K hK => ?_)
             ·skip
              refine goes_ Try.func27 (by kernel_rfl) rfl #[.agg #[.int .i64 a1_0, .int .i64 a1_1]] (by rfl) rfl rfl (by (try simp only [List.map_toArray, List.map_cons, List.map_nil]); first | done | rfl | (simp only [List.length_drop, List.length_take]; rfl)) ?_
              with_reducible refine (laws_toRegion.calls a1_0 a1_1 t211 t212 _ A125.out).mono ?_
              rintro e w138 ⟨rfl, hb⟩
              refine ⟨_, rfl, ?_⟩
              have n0_ := z_aM (z_rB (by (with_reducible repeat (first | apply z_rA | apply z_rN | apply z_rD)); exact HO_186000.out) hb)
              have n1_ := z_aM (z_rB (by (with_reducible repeat (first | apply z_rA | apply z_rN | apply z_rD)); exact HO_190000.out) hb)
              have n2_ := z_aM (z_rB (by (with_reducible repeat (first | apply z_rA | apply z_rN | apply z_rD)); exact HO_197000.out) hb)
              have n3_ := z_aM (z_rB (by (with_reducible repeat (first | apply z_rA | apply z_rN | apply z_rD)); exact HO210.out) hb)
              have n4_ := z_aM (z_kB (by (with_reducible repeat (first | apply z_kN | apply z_kD | apply z_kA)); exact BK173.out) hb)
              have n5_ := z_aM (z_kB (by (with_reducible repeat (first | apply z_kN | apply z_kD | apply z_kA)); exact BK174.out) hb)
              have n6_ := z_aM (z_kB (by (with_reducible repeat (first | apply z_kN | apply z_kD | apply z_kA)); exact BK185.out) hb)
              have n7_ := z_aM (z_kB (by (with_reducible repeat (first | apply z_kN | apply z_kD | apply z_kA)); exact BK189.out) hb)
              have n8_ := z_aM (z_kB (by (with_reducible repeat (first | apply z_kN | apply z_kD | apply z_kA)); exact BK196.out) hb)
              have n9_ := z_aM (z_bT (by repeat (first | (with_reducible first | exact HB.out | apply z_bA | apply z_bN | apply z_bD | refine z_bS ?_ GE173.out | refine z_bS ?_ GE174.out | refine z_bS ?_ GE185.out | refine z_bS ?_ GE189.out | refine z_bS ?_ GE196.out) | exact HB.out)) hb)
              clear HO_186000
              clear HO_190000
              clear HO_197000
              clear HO210
              clear BK173
              clear BK174
              clear BK185
              clear BK189
              clear BK196
              clear HB
              have HO_186000 := n0_
              have HO_190000 := n1_
              have HO_197000 := n2_
              have HO210 := n3_
              have BK173 := n4_
              have BK174 := n5_
              have BK185 := n6_
              have BK189 := n7_
              have BK196 := n8_
              have HB := n9_
              clear n0_ n1_ n2_ n3_ n4_ n5_ n6_ n7_ n8_ n9_
              (try clear hb)
              (try clear hb2)
              (try clear hk)
              (try clear hi)
              obtain ⟨Ao139, co139, eo139⟩ := Kd.R_slice HO210.out
              (first | subst eo139 | (injection eo139 with f1_ f2_ f3_; have f4_ := f1_.symm; have f5_ := f3_.symm; clear f1_ f2_ f3_; subst f4_; subst f5_))
              refine hK.out _ _ ⟨(z_kC BK173.out 0).trans rfl, (z_kC BK174.out 0).trans rfl, (z_kC BK174.out 1).trans rfl⟩ (fun hHeld => ?_)
              clear hK K
              refine norm_ (a' := ?_) ?_ ?_
              rotate_left
              ·show Act.put _ (some 91) _ = _
               simp only [Act.put, z_lA, z_lZ, z_lS, i64_w, i32_w]
               rfl
              refine two_ (i := 6) (j := 10) (Ni := some 94) (Nj := some 18) #[true, true, true, true, true, true, true, false, false, false, false, false, false] #[true, true, true, true, true, true, false, false, false, false, true, false, false] rfl rfl rfl rfl (two_of HT_.out (by kernel_rfl)) (by decide) (by decide) (fun K hK => ?_) (fun K hK => ?_)
              ·skip
               refine goes_ Try.func17 (by kernel_rfl) rfl #[.agg #[.slice Ao139 t208.length co139], .agg #[.int .i64 t211, .int .i64 t212], .int .i64 a2, .int .i64 a3] (by rfl) rfl rfl (by (try simp only [List.map_toArray, List.map_cons, List.map_nil]); first | done | rfl | (simp only [List.length_drop, List.length_take]; rfl)) ?_
               with_reducible refine (impl_StoreCell.calls _ _ t208 t211 t212 a2 a3 t213 t216 _ ?side1 ?side2 A126.out).mono ?_
               (case side1 => repeat (first | exact (Kd.R_reads' HO210.out).2.2 | (with_reducible refine Kd.C_alloc ?_ _) | (with_reducible refine Kd.C_drewN ?_ _) | (with_reducible refine Kd.C_drew ?_)))
               (case side2 => exact (Kd.R_reads' HO210.out).2.1)
               rintro e w140 ⟨v214, rfl, ho0, hb⟩
               refine ⟨_, rfl, ?_⟩
               have n0_ := z_aM (Kd.R_elder' (by (with_reducible repeat (first | apply z_rA | apply z_rN | apply z_rD)); exact HO_186000.out) (Kd.R_base ho0) hb)
               have n1_ := z_aM (Kd.R_elder' (by (with_reducible repeat (first | apply z_rA | apply z_rN | apply z_rD)); exact HO_190000.out) (Kd.R_base ho0) hb)
               have n2_ := z_aM (Kd.R_elder' (by (with_reducible repeat (first | apply z_rA | apply z_rN | apply z_rD)); exact HO_197000.out) (Kd.R_base ho0) hb)
               have n3_ := z_aM (Kd.R_elder' (by (with_reducible repeat (first | apply z_rA | apply z_rN | apply z_rD)); exact HO210.out) (Kd.R_base ho0) hb)
               have n4_ := z_aM (Kd.R_lower (Kd.R_new' (Kd.R_new' (Kd.R_new' (Kd.R_new' ho0 (z_rL (by (with_reducible repeat (first | apply z_rA | apply z_rN | apply z_rD)); exact HO_186000.out))) (z_rL (by (with_reducible repeat (first | apply z_rA | apply z_rN | apply z_rD)); exact HO_190000.out))) (z_rL (by (with_reducible repeat (first | apply z_rA | apply z_rN | apply z_rD)); exact HO_197000.out))) (z_rL (by (with_reducible repeat (first | apply z_rA | apply z_rN | apply z_rD)); exact HO210.out))) (z_bZ (by repeat (first | (with_reducible first | exact HB.out | apply z_bA | apply z_bN | apply z_bD | refine z_bS ?_ GE173.out | refine z_bS ?_ GE174.out | refine z_bS ?_ GE185.out | refine z_bS ?_ GE189.out | refine z_bS ?_ GE196.out) | exact HB.out))))
               have n5_ := z_aM (z_kB (by (with_reducible repeat (first | apply z_kN | apply z_kD | apply z_kA)); exact BK173.out) hb)
               have n6_ := z_aM (z_kB (by (with_reducible repeat (first | apply z_kN | apply z_kD | apply z_kA)); exact BK174.out) hb)
               have n7_ := z_aM (z_kB (by (with_reducible repeat (first | apply z_kN | apply z_kD | apply z_kA)); exact BK185.out) hb)
               have n8_ := z_aM (z_kB (by (with_reducible repeat (first | apply z_kN | apply z_kD | apply z_kA)); exact BK189.out) hb)
               have n9_ := z_aM (z_kB (by (with_reducible repeat (first | apply z_kN | apply z_kD | apply z_kA)); exact BK196.out) hb)
               have n10_ := z_aM (z_bT (by repeat (first | (with_reducible first | exact HB.out | apply z_bA | apply z_bN | apply z_bD | refine z_bS ?_ GE173.out | refine z_bS ?_ GE174.out | refine z_bS ?_ GE185.out | refine z_bS ?_ GE189.out | refine z_bS ?_ GE196.out) | exact HB.out)) hb)
               clear HO_186000
               clear HO_190000
               clear HO_197000
               clear HO210
               clear BK173
               clear BK174
               clear BK185
               clear BK189
               clear BK196
               clear HB
               have HO_186000 := n0_
               have HO_190000 := n1_
               have HO_197000 := n2_
               have HO210 := n3_
               have HO215 := n4_
               have BK173 := n5_
               have BK174 := n6_
               have BK185 := n7_
               have BK189 := n8_
               have BK196 := n9_
               have HB := n10_
               clear n0_ n1_ n2_ n3_ n4_ n5_ n6_ n7_ n8_ n9_ n10_
               (try clear hb)
               (try clear hb2)
               (try clear hk)
               (try clear hi)
               (try clear ho0)
               refine hK.out _ _ ⟨(z_kC BK173.out 0).trans rfl, (z_kC BK174.out 0).trans rfl, (z_kC BK174.out 1).trans rfl⟩ (fun hHeld => ?_)
               clear hK K
               refine norm_ (a' := ?_) ?_ ?_
               rotate_left
               ·show Act.put _ (some 94) _ = _
                simp only [Act.put, z_lA, z_lZ, z_lS, i64_w, i32_w]
                rfl
               refine pure_ (i := 7) (N := some 87) (v := ?_) (a' := ?_) #[true, true, true, true, true, true, true, true, false, false, false, false, false] rfl rfl (any_of HT_.out (by kernel_rfl)) (fun _ _ _ h => h) (Or.inl ⟨by rfl, ?_⟩) ?_ ?_
               rotate_left
               ·intro w'
                go_simp
                with_reducible rfl
               rotate_left
               ·simp only [Act.put, z_lA, z_lZ, z_lS, i64_w, i32_w]
                rfl
               refine pure_ (i := 8) (N := some 95) (v := ?_) (a' := ?_) #[true, true, true, true, true, true, true, true, true, false, false, false, false] rfl rfl (any_of HT_.out (by kernel_rfl)) (fun _ _ _ h => h) (Or.inl ⟨by rfl, ?_⟩) ?_ ?_
               rotate_left
               ·intro w'
                go_simp
                with_reducible rfl
               rotate_left
               ·simp only [Act.put, z_lA, z_lZ, z_lS, i64_w, i32_w]
                rfl
               refine pure_ (i := 9) (N := some 96) (v := ?_) (a' := ?_) #[true, true, true, true, true, true, true, true, true, true, false, false, false] rfl rfl (any_of HT_.out (by kernel_rfl)) (fun _ _ _ h => h) (Or.inl ⟨by rfl, ?_⟩) ?_ ?_
               rotate_left
               ·intro w'
                go_simp
                with_reducible rfl
               rotate_left
               ·simp only [Act.put, z_lA, z_lZ, z_lS, i64_w, i32_w]
                rfl
               refine one_ (i := 10) (N := some 18) #[true, true, true, true, true, true, true, true, true, true, true, false, false] rfl rfl (one_of HT_.out (by kernel_rfl)) (by decide) (fun K hK => ?_)
               refine box_step ?hg (N := 18) ?hd (cs := #[.slice none 0 0]) (t := 29) ?hr ?_; (case hd => rfl); (case hg => rfl); (case hr => first | (go_simp; done) | (go_simp; rfl))
               intro gb217 hg w141 hbox hb
               have n0_ := z_aM (z_rB (by (with_reducible repeat (first | apply z_rA | apply z_rN | apply z_rD)); exact HO_186000.out) hb)
               have n1_ := z_aM (z_rB (by (with_reducible repeat (first | apply z_rA | apply z_rN | apply z_rD)); exact HO_190000.out) hb)
               have n2_ := z_aM (z_rB (by (with_reducible repeat (first | apply z_rA | apply z_rN | apply z_rD)); exact HO_197000.out) hb)
               have n3_ := z_aM (z_rB (by (with_reducible repeat (first | apply z_rA | apply z_rN | apply z_rD)); exact HO210.out) hb)
               have n4_ := z_aM (z_rB (by (with_reducible repeat (first | apply z_rA | apply z_rN | apply z_rD)); exact HO215.out) hb)
               have n5_ := z_aM (z_kB (by (with_reducible repeat (first | apply z_kN | apply z_kD | apply z_kA)); exact BK173.out) hb)
               have n6_ := z_aM (z_kB (by (with_reducible repeat (first | apply z_kN | apply z_kD | apply z_kA)); exact BK174.out) hb)
               have n7_ := z_aM (z_kB (by (with_reducible repeat (first | apply z_kN | apply z_kD | apply z_kA)); exact BK185.out) hb)
               have n8_ := z_aM (z_kB (by (with_reducible repeat (first | apply z_kN | apply z_kD | apply z_kA)); exact BK189.out) hb)
               have n9_ := z_aM (z_kB (by (with_reducible repeat (first | apply z_kN | apply z_kD | apply z_kA)); exact BK196.out) hb)
               have n10_ := z_aM (z_bT (by repeat (first | (with_reducible first | exact HB.out | apply z_bA | apply z_bN | apply z_bD | refine z_bS ?_ GE173.out | refine z_bS ?_ GE174.out | refine z_bS ?_ GE185.out | refine z_bS ?_ GE189.out | refine z_bS ?_ GE196.out) | exact HB.out)) hb)
               have n11_ := z_aM (hbox)
               have n12_ := z_aM ((by rw [hg]; exact (z_bZ (by repeat (first | (with_reducible first | exact HB.out | apply z_bA | apply z_bN | apply z_bD | refine z_bS ?_ GE173.out | refine z_bS ?_ GE174.out | refine z_bS ?_ GE185.out | refine z_bS ?_ GE189.out | refine z_bS ?_ GE196.out) | exact HB.out))) : w.heap.size ≤ gb217))
               have n13_ := z_aM ((by rw [hg]; exact (z_bZ (by repeat (first | (with_reducible first | exact HB.out | apply z_bA | apply z_bN | apply z_bD | refine z_bS ?_ GE173.out | refine z_bS ?_ GE174.out | refine z_bS ?_ GE185.out | refine z_bS ?_ GE189.out | refine z_bS ?_ GE196.out) | exact HB.out))) : w.heap.size ≤ gb217))
               have n14_ := z_aM ((by rw [hg]; exact Nat.ne_of_lt (z_kL (by (with_reducible repeat (first | apply z_kN | apply z_kD | apply z_kA)); exact BK173.out)) : gb173 ≠ gb217))
               have n15_ := z_aM ((by rw [hg]; exact Nat.ne_of_gt (z_kL (by (with_reducible repeat (first | apply z_kN | apply z_kD | apply z_kA)); exact BK173.out)) : gb217 ≠ gb173))
               have n16_ := z_aM ((by rw [hg]; exact Nat.ne_of_lt (z_kL (by (with_reducible repeat (first | apply z_kN | apply z_kD | apply z_kA)); exact BK174.out)) : gb174 ≠ gb217))
               have n17_ := z_aM ((by rw [hg]; exact Nat.ne_of_gt (z_kL (by (with_reducible repeat (first | apply z_kN | apply z_kD | apply z_kA)); exact BK174.out)) : gb217 ≠ gb174))
               have n18_ := z_aM ((by rw [hg]; exact Nat.ne_of_lt (z_kL (by (with_reducible repeat (first | apply z_kN | apply z_kD | apply z_kA)); exact BK185.out)) : gb185 ≠ gb217))
               have n19_ := z_aM ((by rw [hg]; exact Nat.ne_of_gt (z_kL (by (with_reducible repeat (first | apply z_kN | apply z_kD | apply z_kA)); exact BK185.out)) : gb217 ≠ gb185))
               have n20_ := z_aM ((by rw [hg]; exact Nat.ne_of_lt (z_kL (by (with_reducible repeat (first | apply z_kN | apply z_kD | apply z_kA)); exact BK189.out)) : gb189 ≠ gb217))
               have n21_ := z_aM ((by rw [hg]; exact Nat.ne_of_gt (z_kL (by (with_reducible repeat (first | apply z_kN | apply z_kD | apply z_kA)); exact BK189.out)) : gb217 ≠ gb189))
               have n22_ := z_aM ((by rw [hg]; exact Nat.ne_of_lt (z_kL (by (with_reducible repeat (first | apply z_kN | apply z_kD | apply z_kA)); exact BK196.out)) : gb196 ≠ gb217))
               have n23_ := z_aM ((by rw [hg]; exact Nat.ne_of_gt (z_kL (by (with_reducible repeat (first | apply z_kN | apply z_kD | apply z_kA)); exact BK196.out)) : gb217 ≠ gb196))
               clear HO_186000
               clear HO_190000
               clear HO_197000
               clear HO210
               clear HO215
               clear BK173
               clear BK174
               clear BK185
               clear BK189
               clear BK196
               clear HB
               have HO_186000 := n0_
               have HO_190000 := n1_
               have HO_197000 := n2_
               have HO210 := n3_
               have HO215 := n4_
               have BK173 := n5_
               have BK174 := n6_
               have BK185 := n7_
               have BK189 := n8_
               have BK196 := n9_
               have HB := n10_
               have BK217 := n11_
               have GW217 := n12_
               have GE217 := n13_
               have NB173_217 := n14_
               have NB217_173 := n15_
               have NB174_217 := n16_
               have NB217_174 := n17_
               have NB185_217 := n18_
               have NB217_185 := n19_
               have NB189_217 := n20_
               have NB217_189 := n21_
               have NB196_217 := n22_
               have NB217_196 := n23_
               clear n0_ n1_ n2_ n3_ n4_ n5_ n6_ n7_ n8_ n9_ n10_ n11_ n12_ n13_ n14_ n15_ n16_ n17_ n18_ n19_ n20_ n21_ n22_ n23_
               clear hb hbox hg
               refine hK.out _ _ ⟨(z_kC BK173.out 0).trans rfl, (z_kC BK174.out 0).trans rfl, (z_kC BK174.out 1).trans rfl⟩ (fun hHeld => ?_)
               clear hK K
               refine norm_ (a' := ?_) ?_ ?_
               rotate_left
               ·show Act.put _ (some 18) _ = _
                simp only [Act.put, z_lA, z_lZ, z_lS, i64_w, i32_w]
                rfl
               exact norm_ (by simp only [putAll, Act.put, z_lA, z_lZ, z_lS]) (hCont (.slice Ao139 t208.length co139, v214, gb217) _ ⟨hHeld, (by (with_reducible repeat (first | apply z_rA | apply z_rN | apply z_rD)); exact z_rM HO210.out (fun _ hk => ⟨hk.2, ⟨hk.1.1.1.2, ⟨hk.1.1.2, hk.1.2⟩⟩⟩)), (by (with_reducible repeat (first | apply z_rA | apply z_rN | apply z_rD)); exact z_rM HO215.out (fun _ hk => ⟨hk.2, ⟨hk.1.1.1.2, ⟨hk.1.1.2, hk.1.2⟩⟩⟩)), (by (with_reducible repeat (first | apply z_rA | apply z_rN | apply z_rD)); exact z_rM HO_186000.out (fun _ hk => ⟨hk.1.2, ⟨hk.2, ⟨hk.1.1.1, hk.1.1.2⟩⟩⟩)), (by (with_reducible repeat (first | apply z_rA | apply z_rN | apply z_rD)); exact z_rM HO_190000.out (fun _ hk => ⟨hk.1.2, ⟨hk.2, ⟨hk.1.1.1, hk.1.1.2⟩⟩⟩)), (by (with_reducible repeat (first | apply z_rA | apply z_rN | apply z_rD)); exact z_rM HO_197000.out (fun _ hk => ⟨hk.1.2, ⟨hk.2, ⟨hk.1.1.1, hk.1.1.2⟩⟩⟩)), (by (with_reducible repeat (first | apply z_kN | apply z_kD | apply z_kA)); exact BK173.out), (by (with_reducible repeat (first | apply z_kN | apply z_kD | apply z_kA)); exact BK174.out), (by (with_reducible repeat (first | apply z_kN | apply z_kD | apply z_kA)); exact BK185.out), (by (with_reducible repeat (first | apply z_kN | apply z_kD | apply z_kA)); exact BK189.out), (by (with_reducible repeat (first | apply z_kN | apply z_kD | apply z_kA)); exact BK196.out), (by (with_reducible repeat (first | apply z_kN | apply z_kD | apply z_kA)); exact BK217.out), GW217.out, GE217.out, NB173_217.out, NB217_173.out, NB174_217.out, NB217_174.out, NB185_217.out, NB217_185.out, NB189_217.out, NB217_189.out, NB196_217.out, NB217_196.out, (by repeat (first | (with_reducible first | exact HB.out | apply z_bA | apply z_bN | apply z_bD | refine z_bS ?_ GE173.out | refine z_bS ?_ GE174.out | refine z_bS ?_ GE185.out | refine z_bS ?_ GE189.out | refine z_bS ?_ GE196.out | refine z_bS ?_ GE217.out) | exact HB.out))⟩)
              ·skip
               refine box_step ?hg (N := 18) ?hd (cs := #[.slice none 0 0]) (t := 29) ?hr ?_; (case hd => rfl); (case hg => rfl); (case hr => first | (go_simp; done) | (go_simp; rfl))
               intro gb217 hg w139 hbox hb
               have n0_ := z_aM (z_rB (by (with_reducible repeat (first | apply z_rA | apply z_rN | apply z_rD)); exact HO_186000.out) hb)
               have n1_ := z_aM (z_rB (by (with_reducible repeat (first | apply z_rA | apply z_rN | apply z_rD)); exact HO_190000.out) hb)
               have n2_ := z_aM (z_rB (by (with_reducible repeat (first | apply z_rA | apply z_rN | apply z_rD)); exact HO_197000.out) hb)
               have n3_ := z_aM (z_rB (by (with_reducible repeat (first | apply z_rA | apply z_rN | apply z_rD)); exact HO210.out) hb)
               have n4_ := z_aM (z_kB (by (with_reducible repeat (first | apply z_kN | apply z_kD | apply z_kA)); exact BK173.out) hb)
               have n5_ := z_aM (z_kB (by (with_reducible repeat (first | apply z_kN | apply z_kD | apply z_kA)); exact BK174.out) hb)
               have n6_ := z_aM (z_kB (by (with_reducible repeat (first | apply z_kN | apply z_kD | apply z_kA)); exact BK185.out) hb)
               have n7_ := z_aM (z_kB (by (with_reducible repeat (first | apply z_kN | apply z_kD | apply z_kA)); exact BK189.out) hb)
               have n8_ := z_aM (z_kB (by (with_reducible repeat (first | apply z_kN | apply z_kD | apply z_kA)); exact BK196.out) hb)
               have n9_ := z_aM (z_bT (by repeat (first | (with_reducible first | exact HB.out | apply z_bA | apply z_bN | apply z_bD | refine z_bS ?_ GE173.out | refine z_bS ?_ GE174.out | refine z_bS ?_ GE185.out | refine z_bS ?_ GE189.out | refine z_bS ?_ GE196.out) | exact HB.out)) hb)
               have n10_ := z_aM (hbox)
               have n11_ := z_aM ((by rw [hg]; exact (z_bZ (by repeat (first | (with_reducible first | exact HB.out | apply z_bA | apply z_bN | apply z_bD | refine z_bS ?_ GE173.out | refine z_bS ?_ GE174.out | refine z_bS ?_ GE185.out | refine z_bS ?_ GE189.out | refine z_bS ?_ GE196.out) | exact HB.out))) : w.heap.size ≤ gb217))
               have n12_ := z_aM ((by rw [hg]; exact (z_bZ (by repeat (first | (with_reducible first | exact HB.out | apply z_bA | apply z_bN | apply z_bD | refine z_bS ?_ GE173.out | refine z_bS ?_ GE174.out | refine z_bS ?_ GE185.out | refine z_bS ?_ GE189.out | refine z_bS ?_ GE196.out) | exact HB.out))) : w.heap.size ≤ gb217))
               have n13_ := z_aM ((by rw [hg]; exact Nat.ne_of_lt (z_kL (by (with_reducible repeat (first | apply z_kN | apply z_kD | apply z_kA)); exact BK173.out)) : gb173 ≠ gb217))
               have n14_ := z_aM ((by rw [hg]; exact Nat.ne_of_gt (z_kL (by (with_reducible repeat (first | apply z_kN | apply z_kD | apply z_kA)); exact BK173.out)) : gb217 ≠ gb173))
               have n15_ := z_aM ((by rw [hg]; exact Nat.ne_of_lt (z_kL (by (with_reducible repeat (first | apply z_kN | apply z_kD | apply z_kA)); exact BK174.out)) : gb174 ≠ gb217))
               have n16_ := z_aM ((by rw [hg]; exact Nat.ne_of_gt (z_kL (by (with_reducible repeat (first | apply z_kN | apply z_kD | apply z_kA)); exact BK174.out)) : gb217 ≠ gb174))
               have n17_ := z_aM ((by rw [hg]; exact Nat.ne_of_lt (z_kL (by (with_reducible repeat (first | apply z_kN | apply z_kD | apply z_kA)); exact BK185.out)) : gb185 ≠ gb217))
               have n18_ := z_aM ((by rw [hg]; exact Nat.ne_of_gt (z_kL (by (with_reducible repeat (first | apply z_kN | apply z_kD | apply z_kA)); exact BK185.out)) : gb217 ≠ gb185))
               have n19_ := z_aM ((by rw [hg]; exact Nat.ne_of_lt (z_kL (by (with_reducible repeat (first | apply z_kN | apply z_kD | apply z_kA)); exact BK189.out)) : gb189 ≠ gb217))
               have n20_ := z_aM ((by rw [hg]; exact Nat.ne_of_gt (z_kL (by (with_reducible repeat (first | apply z_kN | apply z_kD | apply z_kA)); exact BK189.out)) : gb217 ≠ gb189))
               have n21_ := z_aM ((by rw [hg]; exact Nat.ne_of_lt (z_kL (by (with_reducible repeat (first | apply z_kN | apply z_kD | apply z_kA)); exact BK196.out)) : gb196 ≠ gb217))
               have n22_ := z_aM ((by rw [hg]; exact Nat.ne_of_gt (z_kL (by (with_reducible repeat (first | apply z_kN | apply z_kD | apply z_kA)); exact BK196.out)) : gb217 ≠ gb196))
               clear HO_186000
               clear HO_190000
               clear HO_197000
               clear HO210
               clear BK173
               clear BK174
               clear BK185
               clear BK189
               clear BK196
               clear HB
               have HO_186000 := n0_
               have HO_190000 := n1_
               have HO_197000 := n2_
               have HO210 := n3_
               have BK173 := n4_
               have BK174 := n5_
               have BK185 := n6_
               have BK189 := n7_
               have BK196 := n8_
               have HB := n9_
               have BK217 := n10_
               have GW217 := n11_
               have GE217 := n12_
               have NB173_217 := n13_
               have NB217_173 := n14_
               have NB174_217 := n15_
               have NB217_174 := n16_
               have NB185_217 := n17_
               have NB217_185 := n18_
               have NB189_217 := n19_
               have NB217_189 := n20_
               have NB196_217 := n21_
               have NB217_196 := n22_
               clear n0_ n1_ n2_ n3_ n4_ n5_ n6_ n7_ n8_ n9_ n10_ n11_ n12_ n13_ n14_ n15_ n16_ n17_ n18_ n19_ n20_ n21_ n22_
               clear hb hbox hg
               obtain ⟨Ao140, co140, eo140⟩ := Kd.R_slice HO210.out
               (first | subst eo140 | (injection eo140 with f1_ f2_ f3_; have f4_ := f1_.symm; have f5_ := f3_.symm; clear f1_ f2_ f3_; subst f4_; subst f5_))
               refine hK.out _ _ ⟨(z_kC BK173.out 0).trans rfl, (z_kC BK174.out 0).trans rfl, (z_kC BK174.out 1).trans rfl⟩ (fun hHeld => ?_)
               clear hK K
               refine norm_ (a' := ?_) ?_ ?_
               rotate_left
               ·show Act.put _ (some 18) _ = _
                simp only [Act.put, z_lA, z_lZ, z_lS, i64_w, i32_w]
                rfl
               refine one_ (i := 6) (N := some 94) #[true, true, true, true, true, true, true, false, false, false, true, false, false] rfl rfl (one_of HT_.out (by kernel_rfl)) (by decide) (fun K hK => ?_)
               refine goes_ Try.func17 (by kernel_rfl) rfl #[.agg #[.slice Ao140 t208.length co140], .agg #[.int .i64 t211, .int .i64 t212], .int .i64 a2, .int .i64 a3] (by rfl) rfl rfl (by (try simp only [List.map_toArray, List.map_cons, List.map_nil]); first | done | rfl | (simp only [List.length_drop, List.length_take]; rfl)) ?_
               with_reducible refine (impl_StoreCell.calls _ _ t208 t211 t212 a2 a3 t213 t216 _ ?side1 ?side2 A126.out).mono ?_
               (case side1 => repeat (first | exact (Kd.R_reads' HO210.out).2.2 | (with_reducible refine Kd.C_alloc ?_ _) | (with_reducible refine Kd.C_drewN ?_ _) | (with_reducible refine Kd.C_drew ?_)))
               (case side2 => exact (Kd.R_reads' HO210.out).2.1)
               rintro e w141 ⟨v214, rfl, ho0, hb⟩
               refine ⟨_, rfl, ?_⟩
               have n0_ := z_aM (Kd.R_elder' (by (with_reducible repeat (first | apply z_rA | apply z_rN | apply z_rD)); exact HO_186000.out) (Kd.R_base ho0) hb)
               have n1_ := z_aM (Kd.R_elder' (by (with_reducible repeat (first | apply z_rA | apply z_rN | apply z_rD)); exact HO_190000.out) (Kd.R_base ho0) hb)
               have n2_ := z_aM (Kd.R_elder' (by (with_reducible repeat (first | apply z_rA | apply z_rN | apply z_rD)); exact HO_197000.out) (Kd.R_base ho0) hb)
               have n3_ := z_aM (Kd.R_elder' (by (with_reducible repeat (first | apply z_rA | apply z_rN | apply z_rD)); exact HO210.out) (Kd.R_base ho0) hb)
               have n4_ := z_aM (Kd.R_lower (Kd.R_new' (Kd.R_new' (Kd.R_new' (Kd.R_new' ho0 (z_rL (by (with_reducible repeat (first | apply z_rA | apply z_rN | apply z_rD)); exact HO_186000.out))) (z_rL (by (with_reducible repeat (first | apply z_rA | apply z_rN | apply z_rD)); exact HO_190000.out))) (z_rL (by (with_reducible repeat (first | apply z_rA | apply z_rN | apply z_rD)); exact HO_197000.out))) (z_rL (by (with_reducible repeat (first | apply z_rA | apply z_rN | apply z_rD)); exact HO210.out))) (z_bZ (by repeat (first | (with_reducible first | exact HB.out | apply z_bA | apply z_bN | apply z_bD | refine z_bS ?_ GE173.out | refine z_bS ?_ GE174.out | refine z_bS ?_ GE185.out | refine z_bS ?_ GE189.out | refine z_bS ?_ GE196.out | refine z_bS ?_ GE217.out) | exact HB.out))))
               have n5_ := z_aM (z_kB (by (with_reducible repeat (first | apply z_kN | apply z_kD | apply z_kA)); exact BK173.out) hb)
               have n6_ := z_aM (z_kB (by (with_reducible repeat (first | apply z_kN | apply z_kD | apply z_kA)); exact BK174.out) hb)
               have n7_ := z_aM (z_kB (by (with_reducible repeat (first | apply z_kN | apply z_kD | apply z_kA)); exact BK185.out) hb)
               have n8_ := z_aM (z_kB (by (with_reducible repeat (first | apply z_kN | apply z_kD | apply z_kA)); exact BK189.out) hb)
               have n9_ := z_aM (z_kB (by (with_reducible repeat (first | apply z_kN | apply z_kD | apply z_kA)); exact BK196.out) hb)
               have n10_ := z_aM (z_kB (by (with_reducible repeat (first | apply z_kN | apply z_kD | apply z_kA)); exact BK217.out) hb)
               have n11_ := z_aM (z_bT (by repeat (first | (with_reducible first | exact HB.out | apply z_bA | apply z_bN | apply z_bD | refine z_bS ?_ GE173.out | refine z_bS ?_ GE174.out | refine z_bS ?_ GE185.out | refine z_bS ?_ GE189.out | refine z_bS ?_ GE196.out | refine z_bS ?_ GE217.out) | exact HB.out)) hb)
               clear HO_186000
               clear HO_190000
               clear HO_197000
               clear HO210
               clear BK173
               clear BK174
               clear BK185
               clear BK189
               clear BK196
               clear BK217
               clear HB
               have HO_186000 := n0_
               have HO_190000 := n1_
               have HO_197000 := n2_
               have HO210 := n3_
               have HO215 := n4_
               have BK173 := n5_
               have BK174 := n6_
               have BK185 := n7_
               have BK189 := n8_
               have BK196 := n9_
               have BK217 := n10_
               have HB := n11_
               clear n0_ n1_ n2_ n3_ n4_ n5_ n6_ n7_ n8_ n9_ n10_ n11_
               (try clear hb)
               (try clear hb2)
               (try clear hk)
               (try clear hi)
               (try clear ho0)
               refine hK.out _ _ ⟨(z_kC BK173.out 0).trans rfl, (z_kC BK174.out 0).trans rfl, (z_kC BK174.out 1).trans rfl⟩ (fun hHeld => ?_)
               clear hK K
               refine norm_ (a' := ?_) ?_ ?_
               rotate_left
               ·show Act.put _ (some 94) _ = _
                simp only [Act.put, z_lA, z_lZ, z_lS, i64_w, i32_w]
                rfl
               refine pure_ (i := 7) (N := some 87) (v := ?_) (a' := ?_) #[true, true, true, true, true, true, true, true, false, false, true, false, false] rfl rfl (any_of HT_.out (by kernel_rfl)) (fun _ _ _ h => h) (Or.inl ⟨by rfl, ?_⟩) ?_ ?_
               rotate_left
               ·intro w'
                go_simp
                with_reducible rfl
               rotate_left
               ·simp only [Act.put, z_lA, z_lZ, z_lS, i64_w, i32_w]
                rfl
               refine pure_ (i := 8) (N := some 95) (v := ?_) (a' := ?_) #[true, true, true, true, true, true, true, true, true, false, true, false, false] rfl rfl (any_of HT_.out (by kernel_rfl)) (fun _ _ _ h => h) (Or.inl ⟨by rfl, ?_⟩) ?_ ?_
               rotate_left
               ·intro w'
                go_simp
                with_reducible rfl
               rotate_left
               ·simp only [Act.put, z_lA, z_lZ, z_lS, i64_w, i32_w]
                rfl
               refine pure_ (i := 9) (N := some 96) (v := ?_) (a' := ?_) #[true, true, true, true, true, true, true, true, true, true, true, false, false] rfl rfl (any_of HT_.out (by kernel_rfl)) (fun _ _ _ h => h) (Or.inl ⟨by rfl, ?_⟩) ?_ ?_
               rotate_left
               ·intro w'
                go_simp
                with_reducible rfl
               rotate_left
               ·simp only [Act.put, z_lA, z_lZ, z_lS, i64_w, i32_w]
                rfl
               exact norm_ (by simp only [putAll, Act.put, z_lA, z_lZ, z_lS]) (hCont (.slice Ao140 t208.length co140, v214, gb217) _ ⟨hHeld, (by (with_reducible repeat (first | apply z_rA | apply z_rN | apply z_rD)); exact z_rM HO210.out (fun _ hk => ⟨hk.2, ⟨hk.1.1.1.2, ⟨hk.1.1.2, hk.1.2⟩⟩⟩)), (by (with_reducible repeat (first | apply z_rA | apply z_rN | apply z_rD)); exact z_rM HO215.out (fun _ hk => ⟨hk.2, ⟨hk.1.1.1.2, ⟨hk.1.1.2, hk.1.2⟩⟩⟩)), (by (with_reducible repeat (first | apply z_rA | apply z_rN | apply z_rD)); exact z_rM HO_186000.out (fun _ hk => ⟨hk.1.2, ⟨hk.2, ⟨hk.1.1.1, hk.1.1.2⟩⟩⟩)), (by (with_reducible repeat (first | apply z_rA | apply z_rN | apply z_rD)); exact z_rM HO_190000.out (fun _ hk => ⟨hk.1.2, ⟨hk.2, ⟨hk.1.1.1, hk.1.1.2⟩⟩⟩)), (by (with_reducible repeat (first | apply z_rA | apply z_rN | apply z_rD)); exact z_rM HO_197000.out (fun _ hk => ⟨hk.1.2, ⟨hk.2, ⟨hk.1.1.1, hk.1.1.2⟩⟩⟩)), (by (with_reducible repeat (first | apply z_kN | apply z_kD | apply z_kA)); exact BK173.out), (by (with_reducible repeat (first | apply z_kN | apply z_kD | apply z_kA)); exact BK174.out), (by (with_reducible repeat (first | apply z_kN | apply z_kD | apply z_kA)); exact BK185.out), (by (with_reducible repeat (first | apply z_kN | apply z_kD | apply z_kA)); exact BK189.out), (by (with_reducible repeat (first | apply z_kN | apply z_kD | apply z_kA)); exact BK196.out), (by (with_reducible repeat (first | apply z_kN | apply z_kD | apply z_kA)); exact BK217.out), GW217.out, GE217.out, NB173_217.out, NB217_173.out, NB174_217.out, NB217_174.out, NB185_217.out, NB217_185.out, NB189_217.out, NB217_189.out, NB196_217.out, NB217_196.out, (by repeat (first | (with_reducible first | exact HB.out | apply z_bA | apply z_bN | apply z_bD | refine z_bS ?_ GE173.out | refine z_bS ?_ GE174.out | refine z_bS ?_ GE185.out | refine z_bS ?_ GE189.out | refine z_bS ?_ GE196.out | refine z_bS ?_ GE217.out) | exact HB.out))⟩)
             ·skip
              refine box_step ?hg (N := 18) ?hd (cs := #[.slice none 0 0]) (t := 29) ?hr ?_; (case hd => rfl); (case hg => rfl); (case hr => first | (go_simp; done) | (go_simp; rfl))
              intro gb217 hg w138 hbox hb
              have n0_ := z_aM (z_rB (by (with_reducible repeat (first | apply z_rA | apply z_rN | apply z_rD)); exact HO_186000.out) hb)
              have n1_ := z_aM (z_rB (by (with_reducible repeat (first | apply z_rA | apply z_rN | apply z_rD)); exact HO_190000.out) hb)
              have n2_ := z_aM (z_rB (by (with_reducible repeat (first | apply z_rA | apply z_rN | apply z_rD)); exact HO_197000.out) hb)
              have n3_ := z_aM (z_rB (by (with_reducible repeat (first | apply z_rA | apply z_rN | apply z_rD)); exact HO210.out) hb)
              have n4_ := z_aM (z_kB (by (with_reducible repeat (first | apply z_kN | apply z_kD | apply z_kA)); exact BK173.out) hb)
              have n5_ := z_aM (z_kB (by (with_reducible repeat (first | apply z_kN | apply z_kD | apply z_kA)); exact BK174.out) hb)
              have n6_ := z_aM (z_kB (by (with_reducible repeat (first | apply z_kN | apply z_kD | apply z_kA)); exact BK185.out) hb)
              have n7_ := z_aM (z_kB (by (with_reducible repeat (first | apply z_kN | apply z_kD | apply z_kA)); exact BK189.out) hb)
              have n8_ := z_aM (z_kB (by (with_reducible repeat (first | apply z_kN | apply z_kD | apply z_kA)); exact BK196.out) hb)
              have n9_ := z_aM (z_bT (by repeat (first | (with_reducible first | exact HB.out | apply z_bA | apply z_bN | apply z_bD | refine z_bS ?_ GE173.out | refine z_bS ?_ GE174.out | refine z_bS ?_ GE185.out | refine z_bS ?_ GE189.out | refine z_bS ?_ GE196.out) | exact HB.out)) hb)
              have n10_ := z_aM (hbox)
              have n11_ := z_aM ((by rw [hg]; exact (z_bZ (by repeat (first | (with_reducible first | exact HB.out | apply z_bA | apply z_bN | apply z_bD | refine z_bS ?_ GE173.out | refine z_bS ?_ GE174.out | refine z_bS ?_ GE185.out | refine z_bS ?_ GE189.out | refine z_bS ?_ GE196.out) | exact HB.out))) : w.heap.size ≤ gb217))
              have n12_ := z_aM ((by rw [hg]; exact (z_bZ (by repeat (first | (with_reducible first | exact HB.out | apply z_bA | apply z_bN | apply z_bD | refine z_bS ?_ GE173.out | refine z_bS ?_ GE174.out | refine z_bS ?_ GE185.out | refine z_bS ?_ GE189.out | refine z_bS ?_ GE196.out) | exact HB.out))) : w.heap.size ≤ gb217))
              have n13_ := z_aM ((by rw [hg]; exact Nat.ne_of_lt (z_kL (by (with_reducible repeat (first | apply z_kN | apply z_kD | apply z_kA)); exact BK173.out)) : gb173 ≠ gb217))
              have n14_ := z_aM ((by rw [hg]; exact Nat.ne_of_gt (z_kL (by (with_reducible repeat (first | apply z_kN | apply z_kD | apply z_kA)); exact BK173.out)) : gb217 ≠ gb173))
              have n15_ := z_aM ((by rw [hg]; exact Nat.ne_of_lt (z_kL (by (with_reducible repeat (first | apply z_kN | apply z_kD | apply z_kA)); exact BK174.out)) : gb174 ≠ gb217))
              have n16_ := z_aM ((by rw [hg]; exact Nat.ne_of_gt (z_kL (by (with_reducible repeat (first | apply z_kN | apply z_kD | apply z_kA)); exact BK174.out)) : gb217 ≠ gb174))
              have n17_ := z_aM ((by rw [hg]; exact Nat.ne_of_lt (z_kL (by (with_reducible repeat (first | apply z_kN | apply z_kD | apply z_kA)); exact BK185.out)) : gb185 ≠ gb217))
              have n18_ := z_aM ((by rw [hg]; exact Nat.ne_of_gt (z_kL (by (with_reducible repeat (first | apply z_kN | apply z_kD | apply z_kA)); exact BK185.out)) : gb217 ≠ gb185))
              have n19_ := z_aM ((by rw [hg]; exact Nat.ne_of_lt (z_kL (by (with_reducible repeat (first | apply z_kN | apply z_kD | apply z_kA)); exact BK189.out)) : gb189 ≠ gb217))
              have n20_ := z_aM ((by rw [hg]; exact Nat.ne_of_gt (z_kL (by (with_reducible repeat (first | apply z_kN | apply z_kD | apply z_kA)); exact BK189.out)) : gb217 ≠ gb189))
              have n21_ := z_aM ((by rw [hg]; exact Nat.ne_of_lt (z_kL (by (with_reducible repeat (first | apply z_kN | apply z_kD | apply z_kA)); exact BK196.out)) : gb196 ≠ gb217))
              have n22_ := z_aM ((by rw [hg]; exact Nat.ne_of_gt (z_kL (by (with_reducible repeat (first | apply z_kN | apply z_kD | apply z_kA)); exact BK196.out)) : gb217 ≠ gb196))
              clear HO_186000
              clear HO_190000
              clear HO_197000
              clear HO210
              clear BK173
              clear BK174
              clear BK185
              clear BK189
              clear BK196
              clear HB
              have HO_186000 := n0_
              have HO_190000 := n1_
              have HO_197000 := n2_
              have HO210 := n3_
              have BK173 := n4_
              have BK174 := n5_
              have BK185 := n6_
              have BK189 := n7_
              have BK196 := n8_
              have HB := n9_
              have BK217 := n10_
              have GW217 := n11_
              have GE217 := n12_
              have NB173_217 := n13_
              have NB217_173 := n14_
              have NB174_217 := n15_
              have NB217_174 := n16_
              have NB185_217 := n17_
              have NB217_185 := n18_
              have NB189_217 := n19_
              have NB217_189 := n20_
              have NB196_217 := n21_
              have NB217_196 := n22_
              clear n0_ n1_ n2_ n3_ n4_ n5_ n6_ n7_ n8_ n9_ n10_ n11_ n12_ n13_ n14_ n15_ n16_ n17_ n18_ n19_ n20_ n21_ n22_
              clear hb hbox hg
              refine hK.out _ _ ⟨(z_kC BK173.out 0).trans rfl, (z_kC BK174.out 0).trans rfl, (z_kC BK174.out 1).trans rfl⟩ (fun hHeld => ?_)
              clear hK K
              refine norm_ (a' := ?_) ?_ ?_
              rotate_left
              ·show Act.put _ (some 18) _ = _
               simp only [Act.put, z_lA, z_lZ, z_lS, i64_w, i32_w]
               rfl
              refine one_ (i := 3) (N := some 91) #[true, true, true, true, true, true, false, false, false, false, true, false, false] rfl rfl (one_of HT_.out (by kernel_rfl)) (by decide) (fun K hK => ?_)
              refine goes_ Try.func27 (by kernel_rfl) rfl #[.agg #[.int .i64 a1_0, .int .i64 a1_1]] (by rfl) rfl rfl (by (try simp only [List.map_toArray, List.map_cons, List.map_nil]); first | done | rfl | (simp only [List.length_drop, List.length_take]; rfl)) ?_
              with_reducible refine (laws_toRegion.calls a1_0 a1_1 t211 t212 _ A125.out).mono ?_
              rintro e w139 ⟨rfl, hb⟩
              refine ⟨_, rfl, ?_⟩
              have n0_ := z_aM (z_rB (by (with_reducible repeat (first | apply z_rA | apply z_rN | apply z_rD)); exact HO_186000.out) hb)
              have n1_ := z_aM (z_rB (by (with_reducible repeat (first | apply z_rA | apply z_rN | apply z_rD)); exact HO_190000.out) hb)
              have n2_ := z_aM (z_rB (by (with_reducible repeat (first | apply z_rA | apply z_rN | apply z_rD)); exact HO_197000.out) hb)
              have n3_ := z_aM (z_rB (by (with_reducible repeat (first | apply z_rA | apply z_rN | apply z_rD)); exact HO210.out) hb)
              have n4_ := z_aM (z_kB (by (with_reducible repeat (first | apply z_kN | apply z_kD | apply z_kA)); exact BK173.out) hb)
              have n5_ := z_aM (z_kB (by (with_reducible repeat (first | apply z_kN | apply z_kD | apply z_kA)); exact BK174.out) hb)
              have n6_ := z_aM (z_kB (by (with_reducible repeat (first | apply z_kN | apply z_kD | apply z_kA)); exact BK185.out) hb)
              have n7_ := z_aM (z_kB (by (with_reducible repeat (first | apply z_kN | apply z_kD | apply z_kA)); exact BK189.out) hb)
              have n8_ := z_aM (z_kB (by (with_reducible repeat (first | apply z_kN | apply z_kD | apply z_kA)); exact BK196.out) hb)
              have n9_ := z_aM (z_kB (by (with_reducible repeat (first | apply z_kN | apply z_kD | apply z_kA)); exact BK217.out) hb)
              have n10_ := z_aM (z_bT (by repeat (first | (with_reducible first | exact HB.out | apply z_bA | apply z_bN | apply z_bD | refine z_bS ?_ GE173.out | refine z_bS ?_ GE174.out | refine z_bS ?_ GE185.out | refine z_bS ?_ GE189.out | refine z_bS ?_ GE196.out | refine z_bS ?_ GE217.out) | exact HB.out)) hb)
              clear HO_186000
              clear HO_190000
              clear HO_197000
              clear HO210
              clear BK173
              clear BK174
              clear BK185
              clear BK189
              clear BK196
              clear BK217
              clear HB
              have HO_186000 := n0_
              have HO_190000 := n1_
              have HO_197000 := n2_
              have HO210 := n3_
              have BK173 := n4_
              have BK174 := n5_
              have BK185 := n6_
              have BK189 := n7_
              have BK196 := n8_
              have BK217 := n9_
              have HB := n10_
              clear n0_ n1_ n2_ n3_ n4_ n5_ n6_ n7_ n8_ n9_ n10_
              (try clear hb)
              (try clear hb2)
              (try clear hk)
              (try clear hi)
              obtain ⟨Ao140, co140, eo140⟩ := Kd.R_slice HO210.out
              (first | subst eo140 | (injection eo140 with f1_ f2_ f3_; have f4_ := f1_.symm; have f5_ := f3_.symm; clear f1_ f2_ f3_; subst f4_; subst f5_))
              refine hK.out _ _ ⟨(z_kC BK173.out 0).trans rfl, (z_kC BK174.out 0).trans rfl, (z_kC BK174.out 1).trans rfl⟩ (fun hHeld => ?_)
              clear hK K
              refine norm_ (a' := ?_) ?_ ?_
              rotate_left
              ·show Act.put _ (some 91) _ = _
               simp only [Act.put, z_lA, z_lZ, z_lS, i64_w, i32_w]
               rfl
              refine one_ (i := 6) (N := some 94) #[true, true, true, true, true, true, true, false, false, false, true, false, false] rfl rfl (one_of HT_.out (by kernel_rfl)) (by decide) (fun K hK => ?_)
              refine goes_ Try.func17 (by kernel_rfl) rfl #[.agg #[.slice Ao140 t208.length co140], .agg #[.int .i64 t211, .int .i64 t212], .int .i64 a2, .int .i64 a3] (by rfl) rfl rfl (by (try simp only [List.map_toArray, List.map_cons, List.map_nil]); first | done | rfl | (simp only [List.length_drop, List.length_take]; rfl)) ?_
              with_reducible refine (impl_StoreCell.calls _ _ t208 t211 t212 a2 a3 t213 t216 _ ?side1 ?side2 A126.out).mono ?_
              (case side1 => repeat (first | exact (Kd.R_reads' HO210.out).2.2 | (with_reducible refine Kd.C_alloc ?_ _) | (with_reducible refine Kd.C_drewN ?_ _) | (with_reducible refine Kd.C_drew ?_)))
              (case side2 => exact (Kd.R_reads' HO210.out).2.1)
              rintro e w141 ⟨v214, rfl, ho0, hb⟩
              refine ⟨_, rfl, ?_⟩
              have n0_ := z_aM (Kd.R_elder' (by (with_reducible repeat (first | apply z_rA | apply z_rN | apply z_rD)); exact HO_186000.out) (Kd.R_base ho0) hb)
              have n1_ := z_aM (Kd.R_elder' (by (with_reducible repeat (first | apply z_rA | apply z_rN | apply z_rD)); exact HO_190000.out) (Kd.R_base ho0) hb)
              have n2_ := z_aM (Kd.R_elder' (by (with_reducible repeat (first | apply z_rA | apply z_rN | apply z_rD)); exact HO_197000.out) (Kd.R_base ho0) hb)
              have n3_ := z_aM (Kd.R_elder' (by (with_reducible repeat (first | apply z_rA | apply z_rN | apply z_rD)); exact HO210.out) (Kd.R_base ho0) hb)
              have n4_ := z_aM (Kd.R_lower (Kd.R_new' (Kd.R_new' (Kd.R_new' (Kd.R_new' ho0 (z_rL (by (with_reducible repeat (first | apply z_rA | apply z_rN | apply z_rD)); exact HO_186000.out))) (z_rL (by (with_reducible repeat (first | apply z_rA | apply z_rN | apply z_rD)); exact HO_190000.out))) (z_rL (by (with_reducible repeat (first | apply z_rA | apply z_rN | apply z_rD)); exact HO_197000.out))) (z_rL (by (with_reducible repeat (first | apply z_rA | apply z_rN | apply z_rD)); exact HO210.out))) (z_bZ (by repeat (first | (with_reducible first | exact HB.out | apply z_bA | apply z_bN | apply z_bD | refine z_bS ?_ GE173.out | refine z_bS ?_ GE174.out | refine z_bS ?_ GE185.out | refine z_bS ?_ GE189.out | refine z_bS ?_ GE196.out | refine z_bS ?_ GE217.out) | exact HB.out))))
              have n5_ := z_aM (z_kB (by (with_reducible repeat (first | apply z_kN | apply z_kD | apply z_kA)); exact BK173.out) hb)
              have n6_ := z_aM (z_kB (by (with_reducible repeat (first | apply z_kN | apply z_kD | apply z_kA)); exact BK174.out) hb)
              have n7_ := z_aM (z_kB (by (with_reducible repeat (first | apply z_kN | apply z_kD | apply z_kA)); exact BK185.out) hb)
              have n8_ := z_aM (z_kB (by (with_reducible repeat (first | apply z_kN | apply z_kD | apply z_kA)); exact BK189.out) hb)
              have n9_ := z_aM (z_kB (by (with_reducible repeat (first | apply z_kN | apply z_kD | apply z_kA)); exact BK196.out) hb)
              have n10_ := z_aM (z_kB (by (with_reducible repeat (first | apply z_kN | apply z_kD | apply z_kA)); exact BK217.out) hb)
              have n11_ := z_aM (z_bT (by repeat (first | (with_reducible first | exact HB.out | apply z_bA | apply z_bN | apply z_bD | refine z_bS ?_ GE173.out | refine z_bS ?_ GE174.out | refine z_bS ?_ GE185.out | refine z_bS ?_ GE189.out | refine z_bS ?_ GE196.out | refine z_bS ?_ GE217.out) | exact HB.out)) hb)
              clear HO_186000
              clear HO_190000
              clear HO_197000
              clear HO210
              clear BK173
              clear BK174
              clear BK185
              clear BK189
              clear BK196
              clear BK217
              clear HB
              have HO_186000 := n0_
              have HO_190000 := n1_
              have HO_197000 := n2_
              have HO210 := n3_
              have HO215 := n4_
              have BK173 := n5_
              have BK174 := n6_
              have BK185 := n7_
              have BK189 := n8_
              have BK196 := n9_
              have BK217 := n10_
              have HB := n11_
              clear n0_ n1_ n2_ n3_ n4_ n5_ n6_ n7_ n8_ n9_ n10_ n11_
              (try clear hb)
              (try clear hb2)
              (try clear hk)
              (try clear hi)
              (try clear ho0)
              refine hK.out _ _ ⟨(z_kC BK173.out 0).trans rfl, (z_kC BK174.out 0).trans rfl, (z_kC BK174.out 1).trans rfl⟩ (fun hHeld => ?_)
              clear hK K
              refine norm_ (a' := ?_) ?_ ?_
              rotate_left
              ·show Act.put _ (some 94) _ = _
               simp only [Act.put, z_lA, z_lZ, z_lS, i64_w, i32_w]
               rfl
              refine pure_ (i := 7) (N := some 87) (v := ?_) (a' := ?_) #[true, true, true, true, true, true, true, true, false, false, true, false, false] rfl rfl (any_of HT_.out (by kernel_rfl)) (fun _ _ _ h => h) (Or.inl ⟨by rfl, ?_⟩) ?_ ?_
              rotate_left
              ·intro w'
               go_simp
               with_reducible rfl
              rotate_left
              ·simp only [Act.put, z_lA, z_lZ, z_lS, i64_w, i32_w]
               rfl
              refine pure_ (i := 8) (N := some 95) (v := ?_) (a' := ?_) #[true, true, true, true, true, true, true, true, true, false, true, false, false] rfl rfl (any_of HT_.out (by kernel_rfl)) (fun _ _ _ h => h) (Or.inl ⟨by rfl, ?_⟩) ?_ ?_
              rotate_left
              ·intro w'
               go_simp
               with_reducible rfl
              rotate_left
              ·simp only [Act.put, z_lA, z_lZ, z_lS, i64_w, i32_w]
               rfl
              refine pure_ (i := 9) (N := some 96) (v := ?_) (a' := ?_) #[true, true, true, true, true, true, true, true, true, true, true, false, false] rfl rfl (any_of HT_.out (by kernel_rfl)) (fun _ _ _ h => h) (Or.inl ⟨by rfl, ?_⟩) ?_ ?_
              rotate_left
              ·intro w'
               go_simp
               with_reducible rfl
              rotate_left
              ·simp only [Act.put, z_lA, z_lZ, z_lS, i64_w, i32_w]
               rfl
              exact norm_ (by simp only [putAll, Act.put, z_lA, z_lZ, z_lS]) (hCont (.slice Ao140 t208.length co140, v214, gb217) _ ⟨hHeld, (by (with_reducible repeat (first | apply z_rA | apply z_rN | apply z_rD)); exact z_rM HO210.out (fun _ hk => ⟨hk.2, ⟨hk.1.1.1.2, ⟨hk.1.1.2, hk.1.2⟩⟩⟩)), (by (with_reducible repeat (first | apply z_rA | apply z_rN | apply z_rD)); exact z_rM HO215.out (fun _ hk => ⟨hk.2, ⟨hk.1.1.1.2, ⟨hk.1.1.2, hk.1.2⟩⟩⟩)), (by (with_reducible repeat (first | apply z_rA | apply z_rN | apply z_rD)); exact z_rM HO_186000.out (fun _ hk => ⟨hk.1.2, ⟨hk.2, ⟨hk.1.1.1, hk.1.1.2⟩⟩⟩)), (by (with_reducible repeat (first | apply z_rA | apply z_rN | apply z_rD)); exact z_rM HO_190000.out (fun _ hk => ⟨hk.1.2, ⟨hk.2, ⟨hk.1.1.1, hk.1.1.2⟩⟩⟩)), (by (with_reducible repeat (first | apply z_rA | apply z_rN | apply z_rD)); exact z_rM HO_197000.out (fun _ hk => ⟨hk.1.2, ⟨hk.2, ⟨hk.1.1.1, hk.1.1.2⟩⟩⟩)), (by (with_reducible repeat (first | apply z_kN | apply z_kD | apply z_kA)); exact BK173.out), (by (with_reducible repeat (first | apply z_kN | apply z_kD | apply z_kA)); exact BK174.out), (by (with_reducible repeat (first | apply z_kN | apply z_kD | apply z_kA)); exact BK185.out), (by (with_reducible repeat (first | apply z_kN | apply z_kD | apply z_kA)); exact BK189.out), (by (with_reducible repeat (first | apply z_kN | apply z_kD | apply z_kA)); exact BK196.out), (by (with_reducible repeat (first | apply z_kN | apply z_kD | apply z_kA)); exact BK217.out), GW217.out, GE217.out, NB173_217.out, NB217_173.out, NB174_217.out, NB217_174.out, NB185_217.out, NB217_185.out, NB189_217.out, NB217_189.out, NB196_217.out, NB217_196.out, (by repeat (first | (with_reducible first | exact HB.out | apply z_bA | apply z_bN | apply z_bD | refine z_bS ?_ GE173.out | refine z_bS ?_ GE174.out | refine z_bS ?_ GE185.out | refine z_bS ?_ GE189.out | refine z_bS ?_ GE196.out | refine z_bS ?_ GE217.out) | exact HB.out))⟩)
            ·skip
             refine box_step ?hg (N := 18) ?hd (cs := #[.slice none 0 0]) (t := 29) ?hr ?_; (case hd => rfl); (case hg => rfl); (case hr => first | (go_simp; done) | (go_simp; rfl))
             intro gb217 hg w137 hbox hb
             have n0_ := z_aM (z_rB (by (with_reducible repeat (first | apply z_rA | apply z_rN | apply z_rD)); exact HO_186000.out) hb)
             have n1_ := z_aM (z_rB (by (with_reducible repeat (first | apply z_rA | apply z_rN | apply z_rD)); exact HO_190000.out) hb)
             have n2_ := z_aM (z_rB (by (with_reducible repeat (first | apply z_rA | apply z_rN | apply z_rD)); exact HO_197000.out) hb)
             have n3_ := z_aM (z_kB (by (with_reducible repeat (first | apply z_kN | apply z_kD | apply z_kA)); exact BK173.out) hb)
             have n4_ := z_aM (z_kB (by (with_reducible repeat (first | apply z_kN | apply z_kD | apply z_kA)); exact BK174.out) hb)
             have n5_ := z_aM (z_kB (by (with_reducible repeat (first | apply z_kN | apply z_kD | apply z_kA)); exact BK185.out) hb)
             have n6_ := z_aM (z_kB (by (with_reducible repeat (first | apply z_kN | apply z_kD | apply z_kA)); exact BK189.out) hb)
             have n7_ := z_aM (z_kB (by (with_reducible repeat (first | apply z_kN | apply z_kD | apply z_kA)); exact BK196.out) hb)
             have n8_ := z_aM (z_bT (by repeat (first | (with_reducible first | exact HB.out | apply z_bA | apply z_bN | apply z_bD | refine z_bS ?_ GE173.out | refine z_bS ?_ GE174.out | refine z_bS ?_ GE185.out | refine z_bS ?_ GE189.out | refine z_bS ?_ GE196.out) | exact HB.out)) hb)
             have n9_ := z_aM (hbox)
             have n10_ := z_aM ((by rw [hg]; exact (z_bZ (by repeat (first | (with_reducible first | exact HB.out | apply z_bA | apply z_bN | apply z_bD | refine z_bS ?_ GE173.out | refine z_bS ?_ GE174.out | refine z_bS ?_ GE185.out | refine z_bS ?_ GE189.out | refine z_bS ?_ GE196.out) | exact HB.out))) : w.heap.size ≤ gb217))
             have n11_ := z_aM ((by rw [hg]; exact (z_bZ (by repeat (first | (with_reducible first | exact HB.out | apply z_bA | apply z_bN | apply z_bD | refine z_bS ?_ GE173.out | refine z_bS ?_ GE174.out | refine z_bS ?_ GE185.out | refine z_bS ?_ GE189.out | refine z_bS ?_ GE196.out) | exact HB.out))) : w.heap.size ≤ gb217))
             have n12_ := z_aM ((by rw [hg]; exact Nat.ne_of_lt (z_kL (by (with_reducible repeat (first | apply z_kN | apply z_kD | apply z_kA)); exact BK173.out)) : gb173 ≠ gb217))
             have n13_ := z_aM ((by rw [hg]; exact Nat.ne_of_gt (z_kL (by (with_reducible repeat (first | apply z_kN | apply z_kD | apply z_kA)); exact BK173.out)) : gb217 ≠ gb173))
             have n14_ := z_aM ((by rw [hg]; exact Nat.ne_of_lt (z_kL (by (with_reducible repeat (first | apply z_kN | apply z_kD | apply z_kA)); exact BK174.out)) : gb174 ≠ gb217))
             have n15_ := z_aM ((by rw [hg]; exact Nat.ne_of_gt (z_kL (by (with_reducible repeat (first | apply z_kN | apply z_kD | apply z_kA)); exact BK174.out)) : gb217 ≠ gb174))
             have n16_ := z_aM ((by rw [hg]; exact Nat.ne_of_lt (z_kL (by (with_reducible repeat (first | apply z_kN | apply z_kD | apply z_kA)); exact BK185.out)) : gb185 ≠ gb217))
             have n17_ := z_aM ((by rw [hg]; exact Nat.ne_of_gt (z_kL (by (with_reducible repeat (first | apply z_kN | apply z_kD | apply z_kA)); exact BK185.out)) : gb217 ≠ gb185))
             have n18_ := z_aM ((by rw [hg]; exact Nat.ne_of_lt (z_kL (by (with_reducible repeat (first | apply z_kN | apply z_kD | apply z_kA)); exact BK189.out)) : gb189 ≠ gb217))
             have n19_ := z_aM ((by rw [hg]; exact Nat.ne_of_gt (z_kL (by (with_reducible repeat (first | apply z_kN | apply z_kD | apply z_kA)); exact BK189.out)) : gb217 ≠ gb189))
             have n20_ := z_aM ((by rw [hg]; exact Nat.ne_of_lt (z_kL (by (with_reducible repeat (first | apply z_kN | apply z_kD | apply z_kA)); exact BK196.out)) : gb196 ≠ gb217))
             have n21_ := z_aM ((by rw [hg]; exact Nat.ne_of_gt (z_kL (by (with_reducible repeat (first | apply z_kN | apply z_kD | apply z_kA)); exact BK196.out)) : gb217 ≠ gb196))
             clear HO_186000
             clear HO_190000
             clear HO_197000
             clear BK173
             clear BK174
             clear BK185
             clear BK189
             clear BK196
             clear HB
             have HO_186000 := n0_
             have HO_190000 := n1_
             have HO_197000 := n2_
             have BK173 := n3_
             have BK174 := n4_
             have BK185 := n5_
             have BK189 := n6_
             have BK196 := n7_
             have HB := n8_
             have BK217 := n9_
             have GW217 := n10_
             have GE217 := n11_
             have NB173_217 := n12_
             have NB217_173 := n13_
             have NB174_217 := n14_
             have NB217_174 := n15_
             have NB185_217 := n16_
             have NB217_185 := n17_
             have NB189_217 := n18_
             have NB217_189 := n19_
             have NB196_217 := n20_
             have NB217_196 := n21_
             clear n0_ n1_ n2_ n3_ n4_ n5_ n6_ n7_ n8_ n9_ n10_ n11_ n12_ n13_ n14_ n15_ n16_ n17_ n18_ n19_ n20_ n21_
             clear hb hbox hg
             refine hK.out _ _ ⟨(z_kC BK173.out 0).trans rfl, (z_kC BK174.out 0).trans rfl, (z_kC BK174.out 1).trans rfl⟩ (fun hHeld => ?_)
             clear hK K
             refine norm_ (a' := ?_) ?_ ?_
             rotate_left
             ·show Act.put _ (some 18) _ = _
              simp only [Act.put, z_lA, z_lZ, z_lS, i64_w, i32_w]
              rfl
             refine one_ (i := 1) (N := some 89) #[true, true, true, false, true, true, false, false, false, false, true, false, false] rfl rfl (one_of HT_.out (by kernel_rfl)) (by decide) (fun K hK => ?_)
             refine goes_ Try.func26 (by kernel_rfl) rfl #[.agg #[.slice A0_0 l0_0.length c0_0]] (by rfl) rfl rfl (by (try simp only [List.map_toArray, List.map_cons, List.map_nil]); first | done | rfl | (simp only [List.length_drop, List.length_take]; rfl)) ?_
             with_reducible refine (laws_toArena.calls kj76 _ _ l0_0 t208 _ ?side1 ?side2 A124.out).mono ?_
             (case side1 => repeat (first | exact (Kd.C_below HR0_0.out HB.out) | (with_reducible refine Kd.C_alloc ?_ _) | (with_reducible refine Kd.C_drewN ?_ _) | (with_reducible refine Kd.C_drew ?_)))
             (case side2 => exact HC0_0.out)
             rintro e w138 ⟨v209, rfl, ho0, hb⟩
             refine ⟨_, rfl, ?_⟩
             have n0_ := z_aM (Kd.R_elder' (by (with_reducible repeat (first | apply z_rA | apply z_rN | apply z_rD)); exact HO_186000.out) (Kd.R_base ho0) hb)
             have n1_ := z_aM (Kd.R_elder' (by (with_reducible repeat (first | apply z_rA | apply z_rN | apply z_rD)); exact HO_190000.out) (Kd.R_base ho0) hb)
             have n2_ := z_aM (Kd.R_elder' (by (with_reducible repeat (first | apply z_rA | apply z_rN | apply z_rD)); exact HO_197000.out) (Kd.R_base ho0) hb)
             have n3_ := z_aM (Kd.R_lower (Kd.R_new' (Kd.R_new' (Kd.R_new' ho0 (z_rL (by (with_reducible repeat (first | apply z_rA | apply z_rN | apply z_rD)); exact HO_186000.out))) (z_rL (by (with_reducible repeat (first | apply z_rA | apply z_rN | apply z_rD)); exact HO_190000.out))) (z_rL (by (with_reducible repeat (first | apply z_rA | apply z_rN | apply z_rD)); exact HO_197000.out))) (z_bZ (by repeat (first | (with_reducible first | exact HB.out | apply z_bA | apply z_bN | apply z_bD | refine z_bS ?_ GE173.out | refine z_bS ?_ GE174.out | refine z_bS ?_ GE185.out | refine z_bS ?_ GE189.out | refine z_bS ?_ GE196.out | refine z_bS ?_ GE217.out) | exact HB.out))))
             have n4_ := z_aM (z_kB (by (with_reducible repeat (first | apply z_kN | apply z_kD | apply z_kA)); exact BK173.out) hb)
             have n5_ := z_aM (z_kB (by (with_reducible repeat (first | apply z_kN | apply z_kD | apply z_kA)); exact BK174.out) hb)
             have n6_ := z_aM (z_kB (by (with_reducible repeat (first | apply z_kN | apply z_kD | apply z_kA)); exact BK185.out) hb)
             have n7_ := z_aM (z_kB (by (with_reducible repeat (first | apply z_kN | apply z_kD | apply z_kA)); exact BK189.out) hb)
             have n8_ := z_aM (z_kB (by (with_reducible repeat (first | apply z_kN | apply z_kD | apply z_kA)); exact BK196.out) hb)
             have n9_ := z_aM (z_kB (by (with_reducible repeat (first | apply z_kN | apply z_kD | apply z_kA)); exact BK217.out) hb)
             have n10_ := z_aM (z_bT (by repeat (first | (with_reducible first | exact HB.out | apply z_bA | apply z_bN | apply z_bD | refine z_bS ?_ GE173.out | refine z_bS ?_ GE174.out | refine z_bS ?_ GE185.out | refine z_bS ?_ GE189.out | refine z_bS ?_ GE196.out | refine z_bS ?_ GE217.out) | exact HB.out)) hb)
             clear HO_186000
             clear HO_190000
             clear HO_197000
             clear BK173
             clear BK174
             clear BK185
             clear BK189
             clear BK196
             clear BK217
             clear HB
             have HO_186000 := n0_
             have HO_190000 := n1_
             have HO_197000 := n2_
             have HO210 := n3_
             have BK173 := n4_
             have BK174 := n5_
             have BK185 := n6_
             have BK189 := n7_
             have BK196 := n8_
             have BK217 := n9_
             have HB := n10_
             clear n0_ n1_ n2_ n3_ n4_ n5_ n6_ n7_ n8_ n9_ n10_
             (try clear hb)
             (try clear hb2)
             (try clear hk)
             (try clear hi)
             (try clear ho0)
             refine hK.out _ _ ⟨(z_kC BK173.out 0).trans rfl, (z_kC BK174.out 0).trans rfl, (z_kC BK174.out 1).trans rfl⟩ (fun hHeld => ?_)
             clear hK K
             refine norm_ (a' := ?_) ?_ ?_
             rotate_left
             ·show Act.put _ (some 89) _ = _
              simp only [Act.put, z_lA, z_lZ, z_lS, i64_w, i32_w]
              rfl
             refine one_ (i := 3) (N := some 91) #[true, true, true, true, true, true, false, false, false, false, true, false, false] rfl rfl (one_of HT_.out (by kernel_rfl)) (by decide) (fun K hK => ?_)
             refine goes_ Try.func27 (by kernel_rfl) rfl #[.agg #[.int .i64 a1_0, .int .i64 a1_1]] (by rfl) rfl rfl (by (try simp only [List.map_toArray, List.map_cons, List.map_nil]); first | done | rfl | (simp only [List.length_drop, List.length_take]; rfl)) ?_
             with_reducible refine (laws_toRegion.calls a1_0 a1_1 t211 t212 _ A125.out).mono ?_
             rintro e w139 ⟨rfl, hb⟩
             refine ⟨_, rfl, ?_⟩
             have n0_ := z_aM (z_rB (by (with_reducible repeat (first | apply z_rA | apply z_rN | apply z_rD)); exact HO_186000.out) hb)
             have n1_ := z_aM (z_rB (by (with_reducible repeat (first | apply z_rA | apply z_rN | apply z_rD)); exact HO_190000.out) hb)
             have n2_ := z_aM (z_rB (by (with_reducible repeat (first | apply z_rA | apply z_rN | apply z_rD)); exact HO_197000.out) hb)
             have n3_ := z_aM (z_rB (by (with_reducible repeat (first | apply z_rA | apply z_rN | apply z_rD)); exact HO210.out) hb)
             have n4_ := z_aM (z_kB (by (with_reducible repeat (first | apply z_kN | apply z_kD | apply z_kA)); exact BK173.out) hb)
             have n5_ := z_aM (z_kB (by (with_reducible repeat (first | apply z_kN | apply z_kD | apply z_kA)); exact BK174.out) hb)
             have n6_ := z_aM (z_kB (by (with_reducible repeat (first | apply z_kN | apply z_kD | apply z_kA)); exact BK185.out) hb)
             have n7_ := z_aM (z_kB (by (with_reducible repeat (first | apply z_kN | apply z_kD | apply z_kA)); exact BK189.out) hb)
             have n8_ := z_aM (z_kB (by (with_reducible repeat (first | apply z_kN | apply z_kD | apply z_kA)); exact BK196.out) hb)
             have n9_ := z_aM (z_kB (by (with_reducible repeat (first | apply z_kN | apply z_kD | apply z_kA)); exact BK217.out) hb)
             have n10_ := z_aM (z_bT (by repeat (first | (with_reducible first | exact HB.out | apply z_bA | apply z_bN | apply z_bD | refine z_bS ?_ GE173.out | refine z_bS ?_ GE174.out | refine z_bS ?_ GE185.out | refine z_bS ?_ GE189.out | refine z_bS ?_ GE196.out | refine z_bS ?_ GE217.out) | exact HB.out)) hb)
             clear HO_186000
             clear HO_190000
             clear HO_197000
             clear HO210
             clear BK173
             clear BK174
             clear BK185
             clear BK189
             clear BK196
             clear BK217
             clear HB
             have HO_186000 := n0_
             have HO_190000 := n1_
             have HO_197000 := n2_
             have HO210 := n3_
             have BK173 := n4_
             have BK174 := n5_
             have BK185 := n6_
             have BK189 := n7_
             have BK196 := n8_
             have BK217 := n9_
             have HB := n10_
             clear n0_ n1_ n2_ n3_ n4_ n5_ n6_ n7_ n8_ n9_ n10_
             (try clear hb)
             (try clear hb2)
             (try clear hk)
             (try clear hi)
             obtain ⟨Ao140, co140, eo140⟩ := Kd.R_slice HO210.out
             (first | subst eo140 | (injection eo140 with f1_ f2_ f3_; have f4_ := f1_.symm; have f5_ := f3_.symm; clear f1_ f2_ f3_; subst f4_; subst f5_))
             refine hK.out _ _ ⟨(z_kC BK173.out 0).trans rfl, (z_kC BK174.out 0).trans rfl, (z_kC BK174.out 1).trans rfl⟩ (fun hHeld => ?_)
             clear hK K
             refine norm_ (a' := ?_) ?_ ?_
             rotate_left
             ·show Act.put _ (some 91) _ = _
              simp only [Act.put, z_lA, z_lZ, z_lS, i64_w, i32_w]
              rfl
             refine one_ (i := 6) (N := some 94) #[true, true, true, true, true, true, true, false, false, false, true, false, false] rfl rfl (one_of HT_.out (by kernel_rfl)) (by decide) (fun K hK => ?_)
             refine goes_ Try.func17 (by kernel_rfl) rfl #[.agg #[.slice Ao140 t208.length co140], .agg #[.int .i64 t211, .int .i64 t212], .int .i64 a2, .int .i64 a3] (by rfl) rfl rfl (by (try simp only [List.map_toArray, List.map_cons, List.map_nil]); first | done | rfl | (simp only [List.length_drop, List.length_take]; rfl)) ?_
             with_reducible refine (impl_StoreCell.calls _ _ t208 t211 t212 a2 a3 t213 t216 _ ?side1 ?side2 A126.out).mono ?_
             (case side1 => repeat (first | exact (Kd.R_reads' HO210.out).2.2 | (with_reducible refine Kd.C_alloc ?_ _) | (with_reducible refine Kd.C_drewN ?_ _) | (with_reducible refine Kd.C_drew ?_)))
             (case side2 => exact (Kd.R_reads' HO210.out).2.1)
             rintro e w141 ⟨v214, rfl, ho0, hb⟩
             refine ⟨_, rfl, ?_⟩
             have n0_ := z_aM (Kd.R_elder' (by (with_reducible repeat (first | apply z_rA | apply z_rN | apply z_rD)); exact HO_186000.out) (Kd.R_base ho0) hb)
             have n1_ := z_aM (Kd.R_elder' (by (with_reducible repeat (first | apply z_rA | apply z_rN | apply z_rD)); exact HO_190000.out) (Kd.R_base ho0) hb)
             have n2_ := z_aM (Kd.R_elder' (by (with_reducible repeat (first | apply z_rA | apply z_rN | apply z_rD)); exact HO_197000.out) (Kd.R_base ho0) hb)
             have n3_ := z_aM (Kd.R_elder' (by (with_reducible repeat (first | apply z_rA | apply z_rN | apply z_rD)); exact HO210.out) (Kd.R_base ho0) hb)
             have n4_ := z_aM (Kd.R_lower (Kd.R_new' (Kd.R_new' (Kd.R_new' (Kd.R_new' ho0 (z_rL (by (with_reducible repeat (first | apply z_rA | apply z_rN | apply z_rD)); exact HO_186000.out))) (z_rL (by (with_reducible repeat (first | apply z_rA | apply z_rN | apply z_rD)); exact HO_190000.out))) (z_rL (by (with_reducible repeat (first | apply z_rA | apply z_rN | apply z_rD)); exact HO_197000.out))) (z_rL (by (with_reducible repeat (first | apply z_rA | apply z_rN | apply z_rD)); exact HO210.out))) (z_bZ (by repeat (first | (with_reducible first | exact HB.out | apply z_bA | apply z_bN | apply z_bD | refine z_bS ?_ GE173.out | refine z_bS ?_ GE174.out | refine z_bS ?_ GE185.out | refine z_bS ?_ GE189.out | refine z_bS ?_ GE196.out | refine z_bS ?_ GE217.out) | exact HB.out))))
             have n5_ := z_aM (z_kB (by (with_reducible repeat (first | apply z_kN | apply z_kD | apply z_kA)); exact BK173.out) hb)
             have n6_ := z_aM (z_kB (by (with_reducible repeat (first | apply z_kN | apply z_kD | apply z_kA)); exact BK174.out) hb)
             have n7_ := z_aM (z_kB (by (with_reducible repeat (first | apply z_kN | apply z_kD | apply z_kA)); exact BK185.out) hb)
             have n8_ := z_aM (z_kB (by (with_reducible repeat (first | apply z_kN | apply z_kD | apply z_kA)); exact BK189.out) hb)
             have n9_ := z_aM (z_kB (by (with_reducible repeat (first | apply z_kN | apply z_kD | apply z_kA)); exact BK196.out) hb)
             have n10_ := z_aM (z_kB (by (with_reducible repeat (first | apply z_kN | apply z_kD | apply z_kA)); exact BK217.out) hb)
             have n11_ := z_aM (z_bT (by repeat (first | (with_reducible first | exact HB.out | apply z_bA | apply z_bN | apply z_bD | refine z_bS ?_ GE173.out | refine z_bS ?_ GE174.out | refine z_bS ?_ GE185.out | refine z_bS ?_ GE189.out | refine z_bS ?_ GE196.out | refine z_bS ?_ GE217.out) | exact HB.out)) hb)
             clear HO_186000
             clear HO_190000
             clear HO_197000
             clear HO210
             clear BK173
             clear BK174
             clear BK185
             clear BK189
             clear BK196
             clear BK217
             clear HB
             have HO_186000 := n0_
             have HO_190000 := n1_
             have HO_197000 := n2_
             have HO210 := n3_
             have HO215 := n4_
             have BK173 := n5_
             have BK174 := n6_
             have BK185 := n7_
             have BK189 := n8_
             have BK196 := n9_
             have BK217 := n10_
             have HB := n11_
             clear n0_ n1_ n2_ n3_ n4_ n5_ n6_ n7_ n8_ n9_ n10_ n11_
             (try clear hb)
             (try clear hb2)
             (try clear hk)
             (try clear hi)
             (try clear ho0)
             refine hK.out _ _ ⟨(z_kC BK173.out 0).trans rfl, (z_kC BK174.out 0).trans rfl, (z_kC BK174.out 1).trans rfl⟩ (fun hHeld => ?_)
             clear hK K
             refine norm_ (a' := ?_) ?_ ?_
             rotate_left
             ·show Act.put _ (some 94) _ = _
              simp only [Act.put, z_lA, z_lZ, z_lS, i64_w, i32_w]
              rfl
             refine pure_ (i := 7) (N := some 87) (v := ?_) (a' := ?_) #[true, true, true, true, true, true, true, true, false, false, true, false, false] rfl rfl (any_of HT_.out (by kernel_rfl)) (fun _ _ _ h => h) (Or.inl ⟨by rfl, ?_⟩) ?_ ?_
             rotate_left
             ·intro w'
              go_simp
              with_reducible rfl
             rotate_left
             ·simp only [Act.put, z_lA, z_lZ, z_lS, i64_w, i32_w]
              rfl
             refine pure_ (i := 8) (N := some 95) (v := ?_) (a' := ?_) #[true, true, true, true, true, true, true, true, true, false, true, false, false] rfl rfl (any_of HT_.out (by kernel_rfl)) (fun _ _ _ h => h) (Or.inl ⟨by rfl, ?_⟩) ?_ ?_
             rotate_left
             ·intro w'
              go_simp
              with_reducible rfl
             rotate_left
             ·simp only [Act.put, z_lA, z_lZ, z_lS, i64_w, i32_w]
              rfl
             refine pure_ (i := 9) (N := some 96) (v := ?_) (a' := ?_) #[true, true, true, true, true, true, true, true, true, true, true, false, false] rfl rfl (any_of HT_.out (by kernel_rfl)) (fun _ _ _ h => h) (Or.inl ⟨by rfl, ?_⟩) ?_ ?_
             rotate_left
             ·intro w'
              go_simp
              with_reducible rfl
             rotate_left
             ·simp only [Act.put, z_lA, z_lZ, z_lS, i64_w, i32_w]
              rfl
             exact norm_ (by simp only [putAll, Act.put, z_lA, z_lZ, z_lS]) (hCont (.slice Ao140 t208.length co140, v214, gb217) _ ⟨hHeld, (by (with_reducible repeat (first | apply z_rA | apply z_rN | apply z_rD)); exact z_rM HO210.out (fun _ hk => ⟨hk.2, ⟨hk.1.1.1.2, ⟨hk.1.1.2, hk.1.2⟩⟩⟩)), (by (with_reducible repeat (first | apply z_rA | apply z_rN | apply z_rD)); exact z_rM HO215.out (fun _ hk => ⟨hk.2, ⟨hk.1.1.1.2, ⟨hk.1.1.2, hk.1.2⟩⟩⟩)), (by (with_reducible repeat (first | apply z_rA | apply z_rN | apply z_rD)); exact z_rM HO_186000.out (fun _ hk => ⟨hk.1.2, ⟨hk.2, ⟨hk.1.1.1, hk.1.1.2⟩⟩⟩)), (by (with_reducible repeat (first | apply z_rA | apply z_rN | apply z_rD)); exact z_rM HO_190000.out (fun _ hk => ⟨hk.1.2, ⟨hk.2, ⟨hk.1.1.1, hk.1.1.2⟩⟩⟩)), (by (with_reducible repeat (first | apply z_rA | apply z_rN | apply z_rD)); exact z_rM HO_197000.out (fun _ hk => ⟨hk.1.2, ⟨hk.2, ⟨hk.1.1.1, hk.1.1.2⟩⟩⟩)), (by (with_reducible repeat (first | apply z_kN | apply z_kD | apply z_kA)); exact BK173.out), (by (with_reducible repeat (first | apply z_kN | apply z_kD | apply z_kA)); exact BK174.out), (by (with_reducible repeat (first | apply z_kN | apply z_kD | apply z_kA)); exact BK185.out), (by (with_reducible repeat (first | apply z_kN | apply z_kD | apply z_kA)); exact BK189.out), (by (with_reducible repeat (first | apply z_kN | apply z_kD | apply z_kA)); exact BK196.out), (by (with_reducible repeat (first | apply z_kN | apply z_kD | apply z_kA)); exact BK217.out), GW217.out, GE217.out, NB173_217.out, NB217_173.out, NB174_217.out, NB217_174.out, NB185_217.out, NB217_185.out, NB189_217.out, NB217_189.out, NB196_217.out, NB217_196.out, (by repeat (first | (with_reducible first | exact HB.out | apply z_bA | apply z_bN | apply z_bD | refine z_bS ?_ GE173.out | refine z_bS ?_ GE174.out | refine z_bS ?_ GE185.out | refine z_bS ?_ GE189.out | refine z_bS ?_ GE196.out | refine z_bS ?_ GE217.out) | exact HB.out))⟩)
           rintro ⟨v209, v214, gb217⟩ w142 ⟨hS_, h0_, h1_, h2_, h3_, h4_, h5_, h6_, h7_, h8_, h9_, h10_, h11_, h12_, h13_, h14_, h15_, h16_, h17_, h18_, h19_, h20_, h21_, h22_, h23_⟩
           have n0_ : Aside0 (Kd.R (Kd.int .i64) 3 w142 w.heap.size (fun k_ => some k_ ≠ (v214 : Value).ownBlock ∧ some k_ ≠ (.slice Ao31 t181.length co31 : Value).ownBlock ∧ some k_ ≠ (.slice Ao37 t203.length co37 : Value).ownBlock ∧ some k_ ≠ (.slice Ao48 t192.length co48 : Value).ownBlock) v209 t208) := ⟨h0_⟩
           have n1_ : Aside0 (Kd.R (Kd.int .i64) 3 w142 w.heap.size (fun k_ => some k_ ≠ (v209 : Value).ownBlock ∧ some k_ ≠ (.slice Ao31 t181.length co31 : Value).ownBlock ∧ some k_ ≠ (.slice Ao37 t203.length co37 : Value).ownBlock ∧ some k_ ≠ (.slice Ao48 t192.length co48 : Value).ownBlock) v214 t213) := ⟨h1_⟩
           have n2_ : Aside0 (Kd.R (Kd.int .i64) 3 w142 w.heap.size (fun k_ => some k_ ≠ (v209 : Value).ownBlock ∧ some k_ ≠ (v214 : Value).ownBlock ∧ some k_ ≠ (.slice Ao37 t203.length co37 : Value).ownBlock ∧ some k_ ≠ (.slice Ao48 t192.length co48 : Value).ownBlock) (.slice Ao31 t181.length co31) t181) := ⟨h2_⟩
           have n3_ : Aside0 (Kd.R (Kd.int .i64) 3 w142 w.heap.size (fun k_ => some k_ ≠ (v209 : Value).ownBlock ∧ some k_ ≠ (v214 : Value).ownBlock ∧ some k_ ≠ (.slice Ao31 t181.length co31 : Value).ownBlock ∧ some k_ ≠ (.slice Ao48 t192.length co48 : Value).ownBlock) (.slice Ao37 t203.length co37) t203) := ⟨h3_⟩
           have n4_ : Aside0 (Kd.R (Kd.int .i64) 3 w142 w.heap.size (fun k_ => some k_ ≠ (v209 : Value).ownBlock ∧ some k_ ≠ (v214 : Value).ownBlock ∧ some k_ ≠ (.slice Ao31 t181.length co31 : Value).ownBlock ∧ some k_ ≠ (.slice Ao37 t203.length co37 : Value).ownBlock) (.slice Ao48 t192.length co48) t206) := ⟨h4_⟩
           have n5_ : Aside0 (w142.heap[gb173]? = some (.cells #[.slice A0_0 l0_0.length c0_0] 41 (0, 0))) := ⟨h5_⟩
           have n6_ : Aside0 (w142.heap[gb174]? = some (.cells #[.int .i64 a1_0, .int .i64 a1_1] 42 (0, 0))) := ⟨h6_⟩
           have n7_ : Aside0 (w142.heap[gb185]? = some (.cells #[.slice Ao31 t181.length co31] 29 (0, 0))) := ⟨h7_⟩
           have n8_ : Aside0 (w142.heap[gb189]? = some (.cells #[.slice Ao37 t203.length co37] 29 (0, 0))) := ⟨h8_⟩
           have n9_ : Aside0 (w142.heap[gb196]? = some (.cells #[.slice Ao48 t192.length co48] 29 (0, 0))) := ⟨h9_⟩
           have n10_ : Aside0 (w142.heap[gb217]? = some (.cells #[.slice none 0 0] 29 (0, 0))) := ⟨h10_⟩
           have n11_ : Aside0 (w.heap.size ≤ gb217) := ⟨h11_⟩
           have n12_ : Aside0 (w.heap.size ≤ gb217) := ⟨h12_⟩
           have n13_ : Aside0 (gb173 ≠ gb217) := ⟨h13_⟩
           have n14_ : Aside0 (gb217 ≠ gb173) := ⟨h14_⟩
           have n15_ : Aside0 (gb174 ≠ gb217) := ⟨h15_⟩
           have n16_ : Aside0 (gb217 ≠ gb174) := ⟨h16_⟩
           have n17_ : Aside0 (gb185 ≠ gb217) := ⟨h17_⟩
           have n18_ : Aside0 (gb217 ≠ gb185) := ⟨h18_⟩
           have n19_ : Aside0 (gb189 ≠ gb217) := ⟨h19_⟩
           have n20_ : Aside0 (gb217 ≠ gb189) := ⟨h20_⟩
           have n21_ : Aside0 (gb196 ≠ gb217) := ⟨h21_⟩
           have n22_ : Aside0 (gb217 ≠ gb196) := ⟨h22_⟩
           have n23_ : Aside0 (Below w.heap.size w w142) := ⟨h23_⟩
           clear HO_186000
           clear HO_190000
           clear HO_197000
           clear BK173
           clear BK174
           clear BK185
           clear BK189
           clear BK196
           clear HB
           clear h0_ h1_ h2_ h3_ h4_ h5_ h6_ h7_ h8_ h9_ h10_ h11_ h12_ h13_ h14_ h15_ h16_ h17_ h18_ h19_ h20_ h21_ h22_ h23_
           have HO210 := n0_
           have HO215 := n1_
           have HO_186000 := n2_
           have HO_190000 := n3_
           have HO_197000 := n4_
           have BK173 := n5_
           have BK174 := n6_
           have BK185 := n7_
           have BK189 := n8_
           have BK196 := n9_
           have BK217 := n10_
           have GW217 := n11_
           have GE217 := n12_
           have NB173_217 := n13_
           have NB217_173 := n14_
           have NB174_217 := n15_
           have NB217_174 := n16_
           have NB185_217 := n17_
           have NB217_185 := n18_
           have NB189_217 := n19_
           have NB217_189 := n20_
           have NB196_217 := n21_
           have NB217_196 := n22_
           have HB := n23_
           clear n0_ n1_ n2_ n3_ n4_ n5_ n6_ n7_ n8_ n9_ n10_ n11_ n12_ n13_ n14_ n15_ n16_ n17_ n18_ n19_ n20_ n21_ n22_ n23_
           have hHeld : w142.cell? ⟨gb173, 0, none⟩ = some (.slice A0_0 l0_0.length c0_0) ∧ w142.cell? ⟨gb174, 0, none⟩ = some (.int .i64 a1_0) ∧ w142.cell? ⟨gb174, 1, none⟩ = some (.int .i64 a1_1) := hS_
           obtain ⟨Ao143, co143, eo143⟩ := Kd.R_slice HO215.out
           (first | subst eo143 | (injection eo143 with f1_ f2_ f3_; have f4_ := f1_.symm; have f5_ := f3_.symm; clear f1_ f2_ f3_; subst f4_; subst f5_))
           refine norm_ (a' := ?_) ?_ ?_
           rotate_left
           ·simp only [putAll, Act.put, z_lA, z_lZ, z_lS]
            rfl
           refine one_ (i := 11) (N := none) #[true, true, true, true, true, true, true, true, true, true, true, true, false] rfl rfl (one_of HT_.out (by kernel_rfl)) (by decide) (fun K hK => ?_)
           have hs144 : w142.cell? ⟨gb217, 0, none⟩ = some (.slice none 0 0) := (z_kC BK217.out 0).trans rfl
           have hfs144 := blk_frozen BK217.out 0
           have hns144_0 := NB173_217.out
           have hns144_1 := NB174_217.out
           have hns144_2 := NB185_217.out
           have hns144_3 := NB189_217.out
           have hns144_4 := NB196_217.out
           have hms144_0 := NB217_173.out
           have hms144_1 := NB217_174.out
           have hms144_2 := NB217_185.out
           have hms144_3 := NB217_189.out
           have hms144_4 := NB217_196.out
           refine skip_ (w1 := ?_) (by rfl) rfl ?_ ?_
           rotate_left
           ·go_simp
            rfl
           refine hK.out _ _ ⟨((cell_far (p := ⟨gb217, _, none⟩) NB173_217.out _).trans (hHeld.1)), ((cell_far (p := ⟨gb217, _, none⟩) NB174_217.out _).trans (hHeld.2.1)), ((cell_far (p := ⟨gb217, _, none⟩) NB174_217.out _).trans (hHeld.2.2))⟩ (fun hHeld => ?_)
           clear hK K
           refine pure_ (i := 12) (N := some 19) (v := ?_) (a' := ?_) #[true, true, true, true, true, true, true, true, true, true, true, true, true] rfl rfl (any_of HT_.out (by kernel_rfl)) (fun _ _ _ h => h) (Or.inl ⟨by rfl, ?_⟩) ?_ ?_
           rotate_left
           ·intro w'
            go_simp
            with_reducible rfl
           rotate_left
           ·simp only [Act.put, z_lA, z_lZ, z_lS, i64_w, i32_w]
            rfl
           refine done_ (done_of HT_.out (by kernel_rfl)) ?_
           go_upto_region 25 with (fail)
           go_cut [105] (fun v105 wc => ∃ (kq : Nat) (x105_126 : Bool), v105 = .bool x105_126 ∧ Aside0 (laws_FnExactStoreCell.j2 kq t205 x105_126 t206 = some r) ∧ Aside0 (kq ≤ kj76) ∧ Aside0 (Kd.R (Kd.int .i64) 3 wc w.heap.size (fun k_ => some k_ ≠ ((.slice Ao37 t203.length co37) : Value).ownBlock ∧ some k_ ≠ ((.slice Ao48 t192.length co48) : Value).ownBlock ∧ some k_ ≠ ((.slice Ao143 t213.length co143) : Value).ownBlock) (.slice Ao31 t181.length co31) t181) ∧ Aside0 (Kd.R (Kd.int .i64) 3 wc w.heap.size (fun k_ => some k_ ≠ ((.slice Ao31 t181.length co31) : Value).ownBlock ∧ some k_ ≠ ((.slice Ao48 t192.length co48) : Value).ownBlock ∧ some k_ ≠ ((.slice Ao143 t213.length co143) : Value).ownBlock) (.slice Ao37 t203.length co37) t203) ∧ Aside0 (Kd.R (Kd.int .i64) 3 wc w.heap.size (fun k_ => some k_ ≠ ((.slice Ao31 t181.length co31) : Value).ownBlock ∧ some k_ ≠ ((.slice Ao37 t203.length co37) : Value).ownBlock ∧ some k_ ≠ ((.slice Ao143 t213.length co143) : Value).ownBlock) (.slice Ao48 t192.length co48) t206) ∧ Aside0 (Kd.R (Kd.int .i64) 3 wc w.heap.size (fun k_ => some k_ ≠ ((.slice Ao31 t181.length co31) : Value).ownBlock ∧ some k_ ≠ ((.slice Ao37 t203.length co37) : Value).ownBlock ∧ some k_ ≠ ((.slice Ao48 t192.length co48) : Value).ownBlock) (.slice Ao143 t213.length co143) t213) ∧ Aside0 (wc.heap[gb173]? = some (.cells #[(.slice A0_0 l0_0.length c0_0)] 41 (0, 0))) ∧ Aside0 (wc.heap[gb174]? = some (.cells #[.int .i64 a1_0, .int .i64 a1_1] 42 (0, 0))) ∧ Aside0 (wc.heap[gb185]? = some (.cells #[(.slice Ao31 t181.length co31)] 29 (0, 0))) ∧ Aside0 (wc.heap[gb189]? = some (.cells #[(.slice Ao37 t203.length co37)] 29 (0, 0))) ∧ Aside0 (wc.heap[gb196]? = some (.cells #[(.slice Ao48 t192.length co48)] 29 (0, 0))) ∧ Aside0 (wc.heap[gb217]? = some (.cells #[(.slice Ao143 t213.length co143)] 29 (0, 0))) ∧ Aside0 (Below w.heap.size w wc))
           case first =>
            have H := HC127.out
            clear HC127
            replace H := Option.bind_eq_some_iff.mp H
            obtain ⟨t218, A1450, H⟩ := H
            replace H : (if t218 = true then (laws_FnExactStoreCell.j2 kj76 t205 (t216 != t184) t206) else (laws_FnExactStoreCell.j2 kj76 t205 true t206)) = some r := H
            have A145 := z_aM A1450
            clear A1450
            by_cases c146 : t218 = true
            ·subst c146
             have H1 : (laws_FnExactStoreCell.j2 kj76 t205 (t216 != t184) t206) = some r := by rw [if_pos rfl] at H; exact H
             clear H
             have H := H1
             clear H1
             have H' := z_aM H
             clear H
             have hnb147 := NB217_173.out
             have hnc147 := NB173_217.out
             have hnb148 := NB217_174.out
             have hnc148 := NB174_217.out
             have hnb149 := NB217_185.out
             have hnc149 := NB185_217.out
             have hnb150 := NB217_189.out
             have hnc150 := NB189_217.out
             have hnb151 := NB217_196.out
             have hnc151 := NB196_217.out
             have hcz152_0 : w142.cell? ⟨gb217, 0, none⟩ = some (.slice none 0 0) := (z_kC BK217.out 0).trans rfl
             have hfz152_0 := blk_frozen BK217.out 0
             have hnb153 := NB185_173.out
             have hnc153 := NB173_185.out
             have hnb154 := NB185_174.out
             have hnc154 := NB174_185.out
             have hnb155 := NB185_189.out
             have hnc155 := NB189_185.out
             have hnb156 := NB185_196.out
             have hnc156 := NB196_185.out
             have hcz157_0 : w142.cell? ⟨gb185, 0, none⟩ = some (.slice Ao31 t181.length co31) := (z_kC BK185.out 0).trans rfl
             have hfz157_0 := blk_frozen BK185.out 0
             go_wp2_with (first | ((with_reducible refine gate_callee (f := 28) rfl ?_); refine goesL_ (some 99) rfl rfl Try.func28 (by kernel_rfl) rfl #[.agg #[.slice Ao143 t213.length co143], .agg #[.slice Ao31 t181.length co31]] rfl (by (try simp only [List.map_toArray, List.map_cons, List.map_nil]); first | done | rfl | (simp only [List.length_drop, List.length_take]; rfl)) ?_; (with_reducible refine (laws_eqArena.calls kj76 _ _ t213 _ _ t181 true _ ?side1 ?side2 ?side3 ?side4 A145.out).mono ?_); (case side1 => refine (Kd.R_reads' (e := 3) (base := w.heap.size) (ok := fun k_ => (some k_ ≠ (v209 : Value).ownBlock ∧ (some k_ ≠ (.slice Ao31 t181.length co31 : Value).ownBlock ∧ (some k_ ≠ (.slice Ao37 t203.length co37 : Value).ownBlock ∧ some k_ ≠ (.slice Ao48 t192.length co48 : Value).ownBlock)))) (n := t213.length) (c := co143) ?_).2.2; exact (by (with_reducible repeat (first | apply z_rA | apply z_rN | apply z_rD)); exact (z_rM (Kd.R_far (p := ⟨gb217, 0, none⟩) (Kd.R_types HO215.out BK217.out (by decide)) (fun _ hk => hk.2) (.slice Ao143 t213.length co143)) (fun _ h_ => h_.1)))); (case side2 => exact (Kd.R_reads' HO215.out).2.1); (case side3 => refine (Kd.R_reads' (e := 3) (base := w.heap.size) (ok := fun k_ => (some k_ ≠ (v209 : Value).ownBlock ∧ (some k_ ≠ (.slice Ao143 t213.length co143 : Value).ownBlock ∧ (some k_ ≠ (.slice Ao37 t203.length co37 : Value).ownBlock ∧ some k_ ≠ (.slice Ao48 t192.length co48 : Value).ownBlock)))) (n := t181.length) (c := co31) ?_).2.2; exact (by (with_reducible repeat (first | apply z_rA | apply z_rN | apply z_rD)); exact (z_rM (Kd.R_far (p := ⟨gb217, 0, none⟩) (Kd.R_types HO_186000.out BK217.out (by decide)) (fun _ hk => hk.2) (.slice Ao143 t213.length co143)) (fun _ h_ => h_.1)))); (case side4 => exact (Kd.R_reads' HO_186000.out).2.1); rintro e w158 ⟨rfl, hb⟩; refine ⟨_, rfl, ?_⟩; have n0_ := z_aM (z_rB (by (with_reducible repeat (first | apply z_rA | apply z_rN | apply z_rD)); exact (z_rM (Kd.R_far (p := ⟨gb217, 0, none⟩) (Kd.R_types HO_186000.out BK217.out (by decide)) (fun _ hk => hk.2) (.slice Ao143 t213.length co143)) (fun _ h_ => h_.1))) hb); have n1_ := z_aM (z_rB (by (with_reducible repeat (first | apply z_rA | apply z_rN | apply z_rD)); exact (z_rM (Kd.R_far (p := ⟨gb217, 0, none⟩) (Kd.R_types HO_190000.out BK217.out (by decide)) (fun _ hk => hk.2) (.slice Ao143 t213.length co143)) (fun _ h_ => h_.1))) hb); have n2_ := z_aM (z_rB (by (with_reducible repeat (first | apply z_rA | apply z_rN | apply z_rD)); exact (z_rM (Kd.R_far (p := ⟨gb217, 0, none⟩) (Kd.R_types HO_197000.out BK217.out (by decide)) (fun _ hk => hk.2) (.slice Ao143 t213.length co143)) (fun _ h_ => h_.1))) hb); have n3_ := z_aM (z_rB (by (with_reducible repeat (first | apply z_rA | apply z_rN | apply z_rD)); exact (z_rM (Kd.R_far (p := ⟨gb217, 0, none⟩) (Kd.R_types HO210.out BK217.out (by decide)) (fun _ hk => hk.2) (.slice Ao143 t213.length co143)) (fun _ h_ => h_.1))) hb); have n4_ := z_aM (z_rB (by (with_reducible repeat (first | apply z_rA | apply z_rN | apply z_rD)); exact (z_rM (Kd.R_far (p := ⟨gb217, 0, none⟩) (Kd.R_types HO215.out BK217.out (by decide)) (fun _ hk => hk.2) (.slice Ao143 t213.length co143)) (fun _ h_ => h_.1))) hb); have n5_ := z_aM (z_kB (g := gb173) (o := .cells #[.slice A0_0 l0_0.length c0_0] 41 (0, 0)) (by (with_reducible repeat (first | apply z_kN | apply z_kD | apply z_kA)); refine blk_far ?_ NB173_217.out _; (with_reducible repeat (first | apply z_kN | apply z_kD | apply z_kA)); exact BK173.out) hb); have n6_ := z_aM (z_kB (g := gb174) (o := .cells #[.int .i64 a1_0, .int .i64 a1_1] 42 (0, 0)) (by (with_reducible repeat (first | apply z_kN | apply z_kD | apply z_kA)); refine blk_far ?_ NB174_217.out _; (with_reducible repeat (first | apply z_kN | apply z_kD | apply z_kA)); exact BK174.out) hb); have n7_ := z_aM (z_kB (g := gb185) (o := .cells #[.slice Ao31 t181.length co31] 29 (0, 0)) (by (with_reducible repeat (first | apply z_kN | apply z_kD | apply z_kA)); refine blk_far ?_ NB185_217.out _; (with_reducible repeat (first | apply z_kN | apply z_kD | apply z_kA)); exact BK185.out) hb); have n8_ := z_aM (z_kB (g := gb189) (o := .cells #[.slice Ao37 t203.length co37] 29 (0, 0)) (by (with_reducible repeat (first | apply z_kN | apply z_kD | apply z_kA)); refine blk_far ?_ NB189_217.out _; (with_reducible repeat (first | apply z_kN | apply z_kD | apply z_kA)); exact BK189.out) hb); have n9_ := z_aM (z_kB (g := gb196) (o := .cells #[.slice Ao48 t192.length co48] 29 (0, 0)) (by (with_reducible repeat (first | apply z_kN | apply z_kD | apply z_kA)); refine blk_far ?_ NB196_217.out _; (with_reducible repeat (first | apply z_kN | apply z_kD | apply z_kA)); exact BK196.out) hb); have n10_ := z_aM (z_kB (g := gb217) (o := .cells #[.slice Ao143 t213.length co143] 29 (0, 0)) (by (with_reducible repeat (first | apply z_kN | apply z_kD | apply z_kA)); refine blk_put (cs := #[.slice none 0 0]) ?_ 0 _ rfl; (with_reducible repeat (first | apply z_kN | apply z_kD | apply z_kA)); exact BK217.out) hb); have n11_ := z_aM (z_bT (by repeat (first | (with_reducible first | exact HB.out | apply z_bA | apply z_bN | apply z_bD | refine z_bS ?_ GE173.out | refine z_bS ?_ GE174.out | refine z_bS ?_ GE185.out | refine z_bS ?_ GE189.out | refine z_bS ?_ GE196.out | refine z_bS ?_ GE217.out) | exact HB.out)) hb); clear HO_186000; clear HO_190000; clear HO_197000; clear HO210; clear HO215; clear BK173; clear BK174; clear BK185; clear BK189; clear BK196; clear BK217; clear HB; have HO_186000 := n0_; have HO_190000 := n1_; have HO_197000 := n2_; have HO210 := n3_; have HO215 := n4_; have BK173 := n5_; have BK174 := n6_; have BK185 := n7_; have BK189 := n8_; have BK196 := n9_; have BK217 := n10_; have HB := n11_; clear n0_ n1_ n2_ n3_ n4_ n5_ n6_ n7_ n8_ n9_ n10_ n11_; (try clear hb); (try clear hb2); (try clear hk); (try clear hi)))
             go_meet
             case rel => exact ⟨_, ((t216 != t184)), (by first | rfl | (simp; done) | (simp [*]; done)), H', ⟨by have := HJ17.out; have := HJ76.out; first | omega | exact Nat.le_refl _⟩, ⟨by (try simp only [hl190000_76]); (with_reducible repeat (first | apply z_rA | apply z_rN | apply z_rD)); exact z_rM HO_186000.out (fun _ hk => ⟨hk.2.2.1, ⟨hk.2.2.2, hk.2.1⟩⟩)⟩, ⟨by (try simp only [hl190000_76]); (with_reducible repeat (first | apply z_rA | apply z_rN | apply z_rD)); exact z_rM HO_190000.out (fun _ hk => ⟨hk.2.2.1, ⟨hk.2.2.2, hk.2.1⟩⟩)⟩, ⟨by (try simp only [hl190000_76]); (with_reducible repeat (first | apply z_rA | apply z_rN | apply z_rD)); exact z_rM HO_197000.out (fun _ hk => ⟨hk.2.2.1, ⟨hk.2.2.2, hk.2.1⟩⟩)⟩, ⟨by (try simp only [hl190000_76]); (with_reducible repeat (first | apply z_rA | apply z_rN | apply z_rD)); exact z_rM HO215.out (fun _ hk => ⟨hk.2.1, ⟨hk.2.2.1, hk.2.2.2⟩⟩)⟩, ⟨by (try simp only [hl190000_76]); (with_reducible repeat (first | apply z_kN | apply z_kD | apply z_kA)); exact BK173.out⟩, ⟨by (try simp only [hl190000_76]); (with_reducible repeat (first | apply z_kN | apply z_kD | apply z_kA)); exact BK174.out⟩, ⟨by (try simp only [hl190000_76]); (with_reducible repeat (first | apply z_kN | apply z_kD | apply z_kA)); exact BK185.out⟩, ⟨by (try simp only [hl190000_76]); (with_reducible repeat (first | apply z_kN | apply z_kD | apply z_kA)); exact BK189.out⟩, ⟨by (try simp only [hl190000_76]); (with_reducible repeat (first | apply z_kN | apply z_kD | apply z_kA)); exact BK196.out⟩, ⟨by (try simp only [hl190000_76]); (with_reducible repeat (first | apply z_kN | apply z_kD | apply z_kA)); exact BK217.out⟩, ⟨by repeat (first | (with_reducible first | exact HB.out | apply z_bA | apply z_bN | apply z_bD | refine z_bS ?_ GE173.out | refine z_bS ?_ GE174.out | refine z_bS ?_ GE185.out | refine z_bS ?_ GE189.out | refine z_bS ?_ GE196.out | refine z_bS ?_ GE217.out) | exact HB.out)⟩⟩
            ·replace c146 := Bool.eq_false_iff.mpr c146
             subst c146
             have H1 : (laws_FnExactStoreCell.j2 kj76 t205 true t206) = some r := by rw [if_neg (show ¬ (false = true) by decide)] at H; exact H
             clear H
             have H := H1
             clear H1
             exfalso
             rw [hrt.out] at H
             rcases kj76 with _ | kj76 <;> simp [laws_FnExactStoreCell.j2] at H
           case rest =>
            clear HC127
            try clear c1
            try clear c2
            try clear p2
            try clear c14
            try clear c15
            try clear c16
            try clear c17
            try clear c26
            try clear c27
            try clear c28
            try clear c146
            try clear c147
            try clear c148
            try clear c149
            try clear c150
            try clear c151
            try clear c153
            try clear c154
            try clear c155
            try clear c156
            try clear c159
            try clear c160
            try clear c161
            try clear c162
            try clear c163
            try clear c165
            try clear c166
            try clear c167
            try clear c168
            try clear hcz152_0
            try clear hcz157_0
            try clear hcz164_0
            try clear hcz169_0
            try clear hfz152_0
            try clear hfz157_0
            try clear hfz164_0
            try clear hfz169_0
            obtain ⟨kq, x105_126, rfl, HA, HJ126, HO_186000, HO_190000, HO_197000, HO_218000, BK173, BK174, BK185, BK189, BK196, BK217, HB⟩ := hcut
            have hl197000_126 := (Kd.R_reads' HO_197000.out).1
            rw [hl197000_126] at HO_197000
            (try simp only [hl197000_126])
            (try simp only [hl197000_126] at BK173)
            (try simp only [hl197000_126] at BK174)
            (try simp only [hl197000_126] at BK185)
            (try simp only [hl197000_126] at BK189)
            (try simp only [hl197000_126] at BK196)
            (try simp only [hl197000_126] at BK217)
            (try simp only [hl197000_126] at HO_186000)
            (try simp only [hl197000_126] at HO_190000)
            (try simp only [hl197000_126] at HO_218000)
            cases kq with
            | zero => exact absurd HA.out (by simp [laws_FnExactStoreCell.j2])
            | succ kj126 =>
             have H := HA.out
             clear HA
             simp only [laws_FnExactStoreCell.j2] at H
             by_cases c171 : x105_126 = true
             ·subst c171
              have H1 : (some false) = some r := by rw [if_pos rfl] at H; exact H
              clear H
              have H := H1
              clear H1
              exact absurd (Option.some.inj H) (by rw [hrt.out]; decide)
             ·replace c171 := Bool.eq_false_iff.mpr c171
              subst c171
              have H1 : ((laws_heldArena.f kj126 t206 1).bind fun t219 => (if t219 < 0 then (some false) else (if t219 = t205 then (some true) else (some false)))) = some r := by rw [if_neg (show ¬ (false = true) by decide)] at H; exact H
              clear H
              have H := H1
              clear H1
              replace H := Option.bind_eq_some_iff.mp H
              obtain ⟨t219, A1720, H⟩ := H
              replace H : (if t219 < 0 then (some false) else (if t219 = t205 then (some true) else (some false))) = some r := H
              have A172 := z_aM A1720
              clear A1720
              by_cases c173 : t219 < 0
              ·rw [if_pos c173] at H
               have c173b0 : decide (t219 < 0) = true := decide_eq_true c173
               clear c173
               exact absurd (Option.some.inj H) (by rw [hrt.out]; decide)
              ·rw [if_neg c173] at H
               have c173b0 : decide (t219 < 0) = false := decide_eq_false c173
               clear c173
               by_cases c181 : t219 = t205
               ·rw [if_pos c181] at H
                have c181b0 : (t219 == t205) = true := beq_iff_eq.mpr c181
                have c181b1 : (t219 != t205) = false := bne_eq_false_iff_eq.mpr c181
                clear c181
                obtain rfl := Option.some.inj H
                have hnb182 := NB196_173.out
                have hnc182 := NB173_196.out
                have hnb183 := NB196_174.out
                have hnc183 := NB174_196.out
                have hnb184 := NB196_185.out
                have hnc184 := NB185_196.out
                have hnb185 := NB196_189.out
                have hnc185 := NB189_196.out
                have hnb186 := NB196_217.out
                have hnc186 := NB217_196.out
                have hcz187_0 : wc.cell? ⟨gb196, 0, none⟩ = some (.slice Ao48 t206.length co48) := (z_kC BK196.out 0).trans rfl
                have hfz187_0 := blk_frozen BK196.out 0
                go_wp2_with (first | ((with_reducible refine gate_callee (f := 30) rfl ?_); refine goesL_ (some 108) rfl rfl Try.func30 (by kernel_rfl) rfl #[.agg #[.slice Ao48 t206.length co48], .int .i64 1] rfl (by (try simp only [List.map_toArray, List.map_cons, List.map_nil]); first | done | rfl | (simp only [List.length_drop, List.length_take]; rfl)) ?_; (with_reducible refine (laws_heldArena.calls kj126 _ _ t206 1 t219 _ ?side1 ?side2 A172.out).mono ?_); (case side1 => repeat (first | exact (Kd.R_reads' HO_197000.out).2.2 | (with_reducible refine Kd.C_alloc ?_ _) | (with_reducible refine Kd.C_drewN ?_ _) | (with_reducible refine Kd.C_drew ?_))); (case side2 => exact (Kd.R_reads' HO_197000.out).2.1); rintro e w188 ⟨rfl, hb⟩; refine ⟨_, rfl, ?_⟩; have n0_ := z_aM (z_rB (by (with_reducible repeat (first | apply z_rA | apply z_rN | apply z_rD)); exact HO_186000.out) hb); have n1_ := z_aM (z_rB (by (with_reducible repeat (first | apply z_rA | apply z_rN | apply z_rD)); exact HO_190000.out) hb); have n2_ := z_aM (z_rB (by (with_reducible repeat (first | apply z_rA | apply z_rN | apply z_rD)); exact HO_197000.out) hb); have n3_ := z_aM (z_rB (by (with_reducible repeat (first | apply z_rA | apply z_rN | apply z_rD)); exact HO_218000.out) hb); have n4_ := z_aM (z_kB (by (with_reducible repeat (first | apply z_kN | apply z_kD | apply z_kA)); exact BK173.out) hb); have n5_ := z_aM (z_kB (by (with_reducible repeat (first | apply z_kN | apply z_kD | apply z_kA)); exact BK174.out) hb); have n6_ := z_aM (z_kB (by (with_reducible repeat (first | apply z_kN | apply z_kD | apply z_kA)); exact BK185.out) hb); have n7_ := z_aM (z_kB (by (with_reducible repeat (first | apply z_kN | apply z_kD | apply z_kA)); exact BK189.out) hb); have n8_ := z_aM (z_kB (by (with_reducible repeat (first | apply z_kN | apply z_kD | apply z_kA)); exact BK196.out) hb); have n9_ := z_aM (z_kB (by (with_reducible repeat (first | apply z_kN | apply z_kD | apply z_kA)); exact BK217.out) hb); have n10_ := z_aM (z_bT (by repeat (first | (with_reducible first | exact HB.out | apply z_bA | apply z_bN | apply z_bD | refine z_bS ?_ GE173.out | refine z_bS ?_ GE174.out | refine z_bS ?_ GE185.out | refine z_bS ?_ GE189.out | refine z_bS ?_ GE196.out | refine z_bS ?_ GE217.out) | exact HB.out)) hb); clear HO_186000; clear HO_190000; clear HO_197000; clear HO_218000; clear BK173; clear BK174; clear BK185; clear BK189; clear BK196; clear BK217; clear HB; have HO_186000 := n0_; have HO_190000 := n1_; have HO_197000 := n2_; have HO_218000 := n3_; have BK173 := n4_; have BK174 := n5_; have BK185 := n6_; have BK189 := n7_; have BK196 := n8_; have BK217 := n9_; have HB := n10_; clear n0_ n1_ n2_ n3_ n4_ n5_ n6_ n7_ n8_ n9_ n10_; (try clear hb); (try clear hb2); (try clear hk); (try clear hi)))
                go_ret
                exact ⟨by first | rfl | (simp [errW_none, errW_some] <;> rfl) | (simp [*, errW_none, errW_some] <;> rfl), by repeat (first | (with_reducible first | exact HB.out | apply z_bA | apply z_bN | apply z_bD | refine z_bS ?_ GE173.out | refine z_bS ?_ GE174.out | refine z_bS ?_ GE185.out | refine z_bS ?_ GE189.out | refine z_bS ?_ GE196.out | refine z_bS ?_ GE217.out) | exact HB.out)⟩
               ·rw [if_neg c181] at H
                have c181b0 : (t219 == t205) = false := beq_eq_false_iff_ne.mpr c181
                have c181b1 : (t219 != t205) = true := bne_iff_ne.mpr c181
                exact absurd (Option.some.inj H) (by rw [hrt.out]; decide)
          ·rw [if_neg c123] at H
           have c123b0 : (t207 == t205) = false := beq_eq_false_iff_ne.mpr c123
           have c123b1 : (t207 != t205) = true := bne_iff_ne.mpr c123
           exact absurd (Option.some.inj H) (by rw [hrt.out]; decide)
     ·replace c75 := Bool.eq_false_iff.mpr c75
      subst c75
      have H1 : (some false) = some r := by rw [if_neg (show ¬ (false = true) by decide)] at H; exact H
      clear H
      have H := H1
      clear H1
      exact absurd (Option.some.inj H) (by rw [hrt.out]; decide)

end Go.Proofs.Yteehopjgmgelnaa.PFnExactStoreCell
