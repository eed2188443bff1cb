/- Region 10 of FnTraps, a step of the processor: what it leaves, whatever order is drawn. Own work for this claim. -/
import Derived.Test.YteehopjgmgelnaaMFnTrapsC
import Derived.Test.YteehopjgmgelnaaMFnTrapsx5
namespace Go.Proofs.Yteehopjgmgelnaa.PFnTraps
open Go.RowKit Go.Proofs.YteehopjgmgelnaaW.PrintWords Go.Proofs.YteehopjgmgelnaaW.PrintLast Go.Proofs.YteehopjgmgelnaaW.PrintMore
set_option linter.unusedVariables false
set_option linter.unusedSimpArgs false

set_option maxHeartbeats 4000000 in
set_option maxRecDepth 100000 in
theorem reg10 (k : Nat) {p ar : List Int} {gp cp : Nat} {A : Option Addr} {cA gA gR : Nat} {AS : Option Addr} {cS gF : Nat} {r1 : Int} {r2 r3 : List Int} {r4 r5 r6 r7 : Int} (a0 : Act) (w0 : World) (Q : Exit → Act → World → Prop)
    (h : impl_StepCpu.f k 0 (List.replicate 8 0) [(⟨1, 1⟩ : S64)] ar 0 4 0 = some (r1, r2, r3, r4, r5, r6, r7)) (hB : Bs a0 w0 p ar gp cp A cA gA gR) (hF : a0.tmps[15]? = some (.pointer (some ⟨gF, 0, none⟩))) (hFb : w0.heap[gF]? = some (.cells #[.int .i64 0, .slice AS (List.replicate 8 (0 : Int)).length cS] 52 (0, 0))) (hFr : Kd.R (Kd.int .i64) 3 w0 0 (fun _ => True) (.slice AS (List.replicate 8 (0 : Int)).length cS) (List.replicate 8 (0 : Int)))
    (hQ : ∀ a w g0 g2 v1, Bs a w p ar gp cp A cA gA gR → Below w0.heap.size w0 w → (∀ t, ([69, 70, 72, 73, 71, 74, 68, 75, 76, 77, 16, 17, 18] : List Nat).contains t = false → a.tmps[t]? = a0.tmps[t]?) → a.tmps[18]? = some (.pointer (some ⟨g2, 0, none⟩)) → w.heap[g2]? = some (.cells #[.int .i64 r4, .int .i64 r5, .int .i64 r6, .int .i64 r7] 60 (0, 0)) → a.tmps[16]? = some (.pointer (some ⟨g0, 0, none⟩)) → w.heap[g0]? = some (.cells #[.int .i64 r1, v1] 52 (0, 0)) → Kd.R (Kd.int .i64) 3 w 0 (fun _ => True) v1 r2 → Q .normal a w) :
    (Code.region 10 (opsOf Try.f9 10) false).wp Try.prog Q a0 w0 := by
  obtain ⟨ops, hops⟩ : ∃ o, o = opsOf Try.f9 10 := ⟨_, rfl⟩
  rw [← hops]
  simp only [opsOf, opsIn, Try.f9, Option.bind_some, Option.getD_some, Nat.reduceBEq, Bool.false_eq_true, if_false, if_true, beq_self_eq_true] at hops
  subst hops
  have hu26 := Try.underlying26
  have hu29 := Try.underlying29
  have hu32 := Try.underlying32
  have hu52 := Try.underlying52
  have hu60 := Try.underlying60
  have hu64 := Try.underlying64
  have hu65 := Try.underlying65
  have hz : ∀ t, Nat.ble (t + 1) 124 = true → Nat.ble (t + 1) a0.tmps.size = true := fun t ht => by rw [hB.sz]; exact ht
  refine seq_inv (B := [0, 0, 2, 0, 0, 31, 63, 127, 127, 127, 0, 0, 0, 7423, 15871, 32767]) (n := 16) [0, 1, 2, 3, 4, 5, 6, 7, 8, 9, 10, 11, 12, 13, 14, 15] (fun b a w => ∃ (vj vc vm x0 x1 x2 v1 v2 : Value) (g0 g1 g2 : Nat), a = putSel a0 b [(0, 69, .agg #[.int .i64 0, .slice AS (List.replicate 8 (0 : Int)).length cS]), (1, 70, .agg #[.int .i64 1, .int .i64 1]), (3, 72, .agg #[.slice A ar.length cA]), (4, 73, .agg #[.int .i64 0, .int .i64 4]), (2, 71, vj), (5, 74, vc), (6, 68, vm), (7, 75, x0), (8, 76, x1), (9, 77, x2), (10, 16, .pointer (some ⟨g0, 0, none⟩)), (11, 17, .pointer (some ⟨g1, 0, none⟩)), (12, 18, .pointer (some ⟨g2, 0, none⟩))] ∧ RB w0 [(⟨1, 1⟩ : S64)] r1 r2 r4 r5 r6 r7 (b 2) (b 5) (b 6) (b 7) (b 8) (b 9) (b 10) (b 11) (b 12) (b 13) (b 14) (b 15) vj vc vm x0 x1 x2 v1 v2 g0 g1 g2 w) (by kernel_rfl) (by decide) (by kernel_rfl) ?_ ?_ ?_
  · exact ⟨.bool false, .bool false, .bool false, .bool false, .bool false, .bool false, .bool false, .bool false, 0, 0, 0, by simp only [putSel, Bool.false_eq_true, if_false], RB.start (Below.refl _ _)⟩
  · skip
    refine steps_cons ?_ ?_
    · rintro b a w ⟨vj, vc, vm, x0, x1, x2, v1, v2, g0, g1, g2, ha0, hX⟩ hb_ hon hoff
      have ha := Aside0.mk ha0
      clear ha0
      refine ⟨_, rfl, fun K hK => ?_⟩
      have e15 : a.tmps[15]? = some (.pointer (some ⟨gF, 0, none⟩)) := by rw [ha.out]; exact (putSel_off rfl).trans hF
      have hc0_ : w.cell? ⟨gF, 0, none⟩ = some (.int .i64 0) := (blk_cell (blk_below hFb hX.hb) 0).trans rfl
      have hc1_ : w.cell? ⟨gF, 1, none⟩ = some (.slice AS (List.replicate 8 (0 : Int)).length cS) := (blk_cell (blk_below hFb hX.hb) 1).trans rfl
      refine value_ (w1 := w) (v := .agg #[.int .i64 0, .slice AS (List.replicate 8 (0 : Int)).length cS]) (by rfl) rfl ?_ ?_
      · go_simp
        (try simp only [i64_w])
        try rfl
      exact hK.out _ _ ⟨vj, vc, vm, x0, x1, x2, v1, v2, g0, g1, g2, (by rw [ha.out]; exact putSel_upk 0 hb_ rfl rfl rfl), hX⟩
    refine steps_cons ?_ ?_
    · rintro b a w ⟨vj, vc, vm, x0, x1, x2, v1, v2, g0, g1, g2, ha0, hX⟩ hb_ hon hoff
      have ha := Aside0.mk ha0
      clear ha0
      refine ⟨_, rfl, fun K hK => ?_⟩
      refine value_ (w1 := w) (v := .agg #[.int .i64 1, .int .i64 1]) (by rfl) rfl ?_ ?_
      · go_simp
        (try simp only [i64_w])
        try rfl
      exact hK.out _ _ ⟨vj, vc, vm, x0, x1, x2, v1, v2, g0, g1, g2, (by rw [ha.out]; exact putSel_upk 1 hb_ rfl rfl rfl), hX⟩
    refine steps_cons ?_ ?_
    · rintro b a w ⟨vj, vc, vm, x0, x1, x2, v1, v2, g0, g1, g2, ha0, hX⟩ hb_ hon hoff
      have ha := Aside0.mk ha0
      clear ha0
      refine ⟨_, rfl, fun K hK => ?_⟩
      have e70 : a.tmps[70]? = some (.agg #[.int .i64 1, .int .i64 1]) := by rw [ha.out]; exact putSel_on (e := (1, 70, .agg #[.int .i64 1, .int .i64 1])) 1 rfl rfl (hon 1 (by kernel_rfl)) (hz _ rfl)
      refine Kd.R_lit_step k64 _ 64 ?hg (N := 71) ?hd (xs := [(⟨1, 1⟩ : S64)]) (inner := [.int .i64 (1), .int .i64 1]) (w0 := w) (ok := fun _ => True) (okp := fun _ => True) ?hr ?hp (fun _ hk => hk) trivial (Below.refl _ _) (Nat.le_refl _) (by simp) ?_
      case hd => rfl
      case hg => rfl
      case hr => first | (go_simp; done) | (go_simp; rfl)
      case hp => exact Reps.c2 (k64_mkM _ _ _ (⟨1, 1⟩ : S64)) (Reps.none _ _)
      intro u w1 ho hb hg_ hnew_
      exact hK.out _ _ ⟨u, vc, vm, x0, x1, x2, v1, v2, g0, g1, g2, (by rw [ha.out]; exact putSel_upk 4 hb_ rfl rfl rfl), (hX.ext hb).row (Kd.R_lower ho (Nat.zero_le _))⟩
    refine steps_cons ?_ ?_
    · rintro b a w ⟨vj, vc, vm, x0, x1, x2, v1, v2, g0, g1, g2, ha0, hX⟩ hb_ hon hoff
      have ha := Aside0.mk ha0
      clear ha0
      refine ⟨_, rfl, fun K hK => ?_⟩
      have e4 : a.tmps[4]? = some (.pointer (some ⟨gA, 0, none⟩)) := by rw [ha.out]; exact (putSel_off rfl).trans hB.sa
      have hc0_ : w.cell? ⟨gA, 0, none⟩ = some (.slice A ar.length cA) := (blk_cell (blk_below hB.bA hX.hb) 0).trans rfl
      refine value_ (w1 := w) (v := .agg #[.slice A ar.length cA]) (by rfl) rfl ?_ ?_
      · go_simp
        (try simp only [i64_w])
        try rfl
      exact hK.out _ _ ⟨vj, vc, vm, x0, x1, x2, v1, v2, g0, g1, g2, (by rw [ha.out]; exact putSel_upk 2 hb_ rfl rfl rfl), hX⟩
    refine steps_cons ?_ ?_
    · rintro b a w ⟨vj, vc, vm, x0, x1, x2, v1, v2, g0, g1, g2, ha0, hX⟩ hb_ hon hoff
      have ha := Aside0.mk ha0
      clear ha0
      refine ⟨_, rfl, fun K hK => ?_⟩
      have e5 : a.tmps[5]? = some (.pointer (some ⟨gR, 0, none⟩)) := by rw [ha.out]; exact (putSel_off rfl).trans hB.sr
      have hc0_ : w.cell? ⟨gR, 0, none⟩ = some (.int .i64 0) := (blk_cell (blk_below hB.bR hX.hb) 0).trans rfl
      have hc1_ : w.cell? ⟨gR, 1, none⟩ = some (.int .i64 4) := (blk_cell (blk_below hB.bR hX.hb) 1).trans rfl
      refine value_ (w1 := w) (v := .agg #[.int .i64 0, .int .i64 4]) (by rfl) rfl ?_ ?_
      · go_simp
        (try simp only [i64_w])
        try rfl
      exact hK.out _ _ ⟨vj, vc, vm, x0, x1, x2, v1, v2, g0, g1, g2, (by rw [ha.out]; exact putSel_upk 3 hb_ rfl rfl rfl), hX⟩
    refine steps_cons ?_ ?_
    · rintro b a w ⟨vj, vc, vm, x0, x1, x2, v1, v2, g0, g1, g2, ha0, hX⟩ hb_ hon hoff
      have ha := Aside0.mk ha0
      clear ha0
      refine ⟨_, rfl, fun K hK => ?_⟩
      have e69 : a.tmps[69]? = some (.agg #[.int .i64 0, .slice AS (List.replicate 8 (0 : Int)).length cS]) := by rw [ha.out]; exact putSel_on (e := (0, 69, .agg #[.int .i64 0, .slice AS (List.replicate 8 (0 : Int)).length cS])) 0 rfl rfl (hon 0 (by kernel_rfl)) (hz _ rfl)
      have e71 : a.tmps[71]? = some (vj) := by rw [ha.out]; exact putSel_on (e := (2, 71, vj)) 4 rfl rfl (hon 2 (by kernel_rfl)) (hz _ rfl)
      have e72 : a.tmps[72]? = some (.agg #[.slice A ar.length cA]) := by rw [ha.out]; exact putSel_on (e := (3, 72, .agg #[.slice A ar.length cA])) 2 rfl rfl (hon 3 (by kernel_rfl)) (hz _ rfl)
      have e73 : a.tmps[73]? = some (.agg #[.int .i64 0, .int .i64 4]) := by rw [ha.out]; exact putSel_on (e := (4, 73, .agg #[.int .i64 0, .int .i64 4])) 3 rfl rfl (hon 4 (by kernel_rfl)) (hz _ rfl)
      have hj := hX.hj (hon 2 (by kernel_rfl)) hb_
      obtain ⟨Aj, cj, ej⟩ := Kd.R_slice hj
      subst ej
      have hj2 := Kd.R_reads' hj
      have hA2 := Kd.R_reads' (Kd.R_below hB.ha hX.hb)
      refine goes_ Try.func38 (by kernel_rfl) rfl #[.agg #[.int .i64 0, .slice AS (List.replicate 8 (0 : Int)).length cS], .slice Aj [(⟨1, 1⟩ : S64)].length cj, .agg #[.slice A ar.length cA], .agg #[.int .i64 0, .int .i64 4], .int .i64 0] (by rfl) rfl rfl (by simp only [List.map_toArray, List.map_cons, List.map_nil, eval_of e69, eval_of e71, eval_of e72, eval_of e73]; rfl) ?_
      have hS2 := Kd.R_reads' (Kd.R_below hFr hX.hb)
      refine (impl_StepCpu.calls k 0 AS cS (List.replicate 8 0) Aj cj [(⟨1, 1⟩ : S64)] A cA ar 0 4 0 r1 r2 r3 r4 r5 r6 r7 w hS2.2.2 hS2.2.1 hj2.2.2 hj2.2.1 hA2.2.2 hA2.2.1 h).mono ?_
      rintro e w1 ⟨u1, u2, rfl, hr1, hr2, hb⟩
      refine ⟨_, rfl, ?_⟩
      obtain ⟨A2, c2, e2⟩ := Kd.R_slice hr2
      exact hK.out _ _ ⟨.slice Aj [(⟨1, 1⟩ : S64)].length cj, _, vm, x0, x1, x2, u1, u2, g0, g1, g2, (by rw [ha.out]; exact putSel_upk 5 hb_ rfl rfl rfl), (hX.ext hb).call (hoff 6 (by kernel_rfl)) (hoff 7 (by kernel_rfl)) (hoff 8 (by kernel_rfl)) (hoff 9 (by kernel_rfl)) (hoff 13 (by kernel_rfl)) (hoff 14 (by kernel_rfl)) (Kd.R_mono (Kd.R_lower hr1 (Nat.zero_le _)) (fun _ _ => trivial)) ⟨_, _, _, e2⟩⟩
    refine steps_cons ?_ ?_
    · rintro b a w ⟨vj, vc, vm, x0, x1, x2, v1, v2, g0, g1, g2, ha0, hX⟩ hb_ hon hoff
      have ha := Aside0.mk ha0
      clear ha0
      refine ⟨_, rfl, fun K hK => ?_⟩
      have e74 : a.tmps[74]? = some (vc) := by rw [ha.out]; exact putSel_on (e := (5, 74, vc)) 5 rfl rfl (hon 5 (by kernel_rfl)) (hz _ rfl)
      rw [hX.hc (hon 5 (by kernel_rfl))] at e74
      refine value_ (w1 := w) (v := .tuple #[.agg #[.int .i64 r1, v1], .agg #[v2], .agg #[.int .i64 r4, .int .i64 r5, .int .i64 r6, .int .i64 r7]]) (by rfl) rfl ?_ ?_
      · go_simp
        try rfl
      exact hK.out _ _ ⟨vj, vc, _, x0, x1, x2, v1, v2, g0, g1, g2, (by rw [ha.out]; exact putSel_upk 6 hb_ rfl rfl rfl), hX.move⟩
    refine steps_cons ?_ ?_
    · rintro b a w ⟨vj, vc, vm, x0, x1, x2, v1, v2, g0, g1, g2, ha0, hX⟩ hb_ hon hoff
      have ha := Aside0.mk ha0
      clear ha0
      refine ⟨_, rfl, fun K hK => ?_⟩
      have e68 : a.tmps[68]? = some (vm) := by rw [ha.out]; exact putSel_on (e := (6, 68, vm)) 6 rfl rfl (hon 6 (by kernel_rfl)) (hz _ rfl)
      rw [hX.hm (hon 6 (by kernel_rfl))] at e68
      refine value_ (w1 := w) (v := .agg #[.int .i64 r1, v1]) (by rfl) rfl ?_ ?_
      · go_simp
        try rfl
      exact hK.out _ _ ⟨vj, vc, vm, _, x1, x2, v1, v2, g0, g1, g2, (by rw [ha.out]; exact putSel_upk 7 hb_ rfl rfl rfl), hX.ex0⟩
    refine steps_cons ?_ ?_
    · rintro b a w ⟨vj, vc, vm, x0, x1, x2, v1, v2, g0, g1, g2, ha0, hX⟩ hb_ hon hoff
      have ha := Aside0.mk ha0
      clear ha0
      refine ⟨_, rfl, fun K hK => ?_⟩
      have e68 : a.tmps[68]? = some (vm) := by rw [ha.out]; exact putSel_on (e := (6, 68, vm)) 6 rfl rfl (hon 6 (by kernel_rfl)) (hz _ rfl)
      rw [hX.hm (hon 6 (by kernel_rfl))] at e68
      refine value_ (w1 := w) (v := .agg #[v2]) (by rfl) rfl ?_ ?_
      · go_simp
        try rfl
      exact hK.out _ _ ⟨vj, vc, vm, x0, _, x2, v1, v2, g0, g1, g2, (by rw [ha.out]; exact putSel_upk 8 hb_ rfl rfl rfl), hX.ex1⟩
    refine steps_cons ?_ ?_
    · rintro b a w ⟨vj, vc, vm, x0, x1, x2, v1, v2, g0, g1, g2, ha0, hX⟩ hb_ hon hoff
      have ha := Aside0.mk ha0
      clear ha0
      refine ⟨_, rfl, fun K hK => ?_⟩
      have e68 : a.tmps[68]? = some (vm) := by rw [ha.out]; exact putSel_on (e := (6, 68, vm)) 6 rfl rfl (hon 6 (by kernel_rfl)) (hz _ rfl)
      rw [hX.hm (hon 6 (by kernel_rfl))] at e68
      refine value_ (w1 := w) (v := .agg #[.int .i64 r4, .int .i64 r5, .int .i64 r6, .int .i64 r7]) (by rfl) rfl ?_ ?_
      · go_simp
        try rfl
      exact hK.out _ _ ⟨vj, vc, vm, x0, x1, _, v1, v2, g0, g1, g2, (by rw [ha.out]; exact putSel_upk 9 hb_ rfl rfl rfl), hX.ex2⟩
    refine steps_cons ?_ ?_
    · rintro b a w ⟨vj, vc, vm, x0, x1, x2, v1, v2, g0, g1, g2, ha0, hX⟩ hb_ hon hoff
      have ha := Aside0.mk ha0
      clear ha0
      refine ⟨_, rfl, fun K hK => ?_⟩
      refine box_step ?hg (N := 16) ?hd (cs := #[.int .i64 0, .slice none 0 0]) (t := 52) ?hr ?_
      case hd => rfl
      case hg => rfl
      case hr => first | (go_simp; done) | (go_simp; rfl)
      intro g hg w1 hbox hb
      exact hK.out _ _ ⟨vj, vc, vm, x0, x1, x2, v1, v2, g, g1, g2, (by rw [ha.out]; exact putSel_upk 10 hb_ rfl rfl rfl), hX.box0 (hoff 13 (by kernel_rfl)) hg hbox hb⟩
    refine steps_cons ?_ ?_
    · rintro b a w ⟨vj, vc, vm, x0, x1, x2, v1, v2, g0, g1, g2, ha0, hX⟩ hb_ hon hoff
      have ha := Aside0.mk ha0
      clear ha0
      refine ⟨_, rfl, fun K hK => ?_⟩
      refine box_step ?hg (N := 17) ?hd (cs := #[.slice none 0 0]) (t := 29) ?hr ?_
      case hd => rfl
      case hg => rfl
      case hr => first | (go_simp; done) | (go_simp; rfl)
      intro g hg w1 hbox hb
      exact hK.out _ _ ⟨vj, vc, vm, x0, x1, x2, v1, v2, g0, g, g2, (by rw [ha.out]; exact putSel_upk 11 hb_ rfl rfl rfl), hX.box1 (hoff 14 (by kernel_rfl)) hg hbox hb⟩
    refine steps_cons ?_ ?_
    · rintro b a w ⟨vj, vc, vm, x0, x1, x2, v1, v2, g0, g1, g2, ha0, hX⟩ hb_ hon hoff
      have ha := Aside0.mk ha0
      clear ha0
      refine ⟨_, rfl, fun K hK => ?_⟩
      refine box_step ?hg (N := 18) ?hd (cs := #[.int .i64 0, .int .i64 0, .int .i64 0, .int .i64 0]) (t := 60) ?hr ?_
      case hd => rfl
      case hg => rfl
      case hr => first | (go_simp; done) | (go_simp; rfl)
      intro g hg w1 hbox hb
      exact hK.out _ _ ⟨vj, vc, vm, x0, x1, x2, v1, v2, g0, g1, g, (by rw [ha.out]; exact putSel_upk 12 hb_ rfl rfl rfl), hX.box2 (hoff 15 (by kernel_rfl)) hg hbox hb⟩
    refine steps_cons ?_ ?_
    · rintro b a w ⟨vj, vc, vm, x0, x1, x2, v1, v2, g0, g1, g2, ha0, hX⟩ hb_ hon hoff
      have ha := Aside0.mk ha0
      clear ha0
      refine ⟨_, rfl, fun K hK => ?_⟩
      obtain ⟨Ax, cx, ex⟩ := Kd.R_slice (hX.hr (hon 5 (by kernel_rfl)))
      subst ex
      have e16 : a.tmps[16]? = some (.pointer (some ⟨g0, 0, none⟩)) := by rw [ha.out]; exact putSel_on (e := (10, 16, .pointer (some ⟨g0, 0, none⟩))) 10 rfl rfl (hon 10 (by kernel_rfl)) (hz _ rfl)
      have e75 : a.tmps[75]? = some (x0) := by rw [ha.out]; exact putSel_on (e := (7, 75, x0)) 7 rfl rfl (hon 7 (by kernel_rfl)) (hz _ rfl)
      rw [hX.h0 (hon 7 (by kernel_rfl))] at e75
      have kk := (hX.k0 (hon 10 (by kernel_rfl))).2
      rw [hb_] at kk
      simp only [Bool.false_eq_true, if_false] at kk
      have hs0_ : w.cell? ⟨g0, 0, none⟩ = some (.int .i64 0) := (blk_cell kk 0).trans rfl
      have hf0_ := blk_frozen kk 0
      have hs1_ : w.cell? ⟨g0, 1, none⟩ = some (.slice none 0 0) := (blk_cell kk 1).trans rfl
      have hf1_ := blk_frozen kk 1
      clear kk
      refine skip_ (w1 := ?_) (by rfl) rfl ?_ ?_
      rotate_left
      · go_simp
        rfl
      exact hK.out _ _ ⟨vj, vc, vm, x0, x1, x2, .slice Ax r2.length cx, v2, g0, g1, g2, (by rw [ha.out]; exact putSel_none (v := undef) rfl), hX.store0 (hon 5 (by kernel_rfl)) (hon 10 (by kernel_rfl)) (hon 11 (by kernel_rfl)) (hon 12 (by kernel_rfl)) hb_⟩
    refine steps_cons ?_ ?_
    · rintro b a w ⟨vj, vc, vm, x0, x1, x2, v1, v2, g0, g1, g2, ha0, hX⟩ hb_ hon hoff
      have ha := Aside0.mk ha0
      clear ha0
      refine ⟨_, rfl, fun K hK => ?_⟩
      obtain ⟨Ax, nx, cx, ex⟩ := hX.hv (hon 5 (by kernel_rfl))
      subst ex
      have e17 : a.tmps[17]? = some (.pointer (some ⟨g1, 0, none⟩)) := by rw [ha.out]; exact putSel_on (e := (11, 17, .pointer (some ⟨g1, 0, none⟩))) 11 rfl rfl (hon 11 (by kernel_rfl)) (hz _ rfl)
      have e76 : a.tmps[76]? = some (x1) := by rw [ha.out]; exact putSel_on (e := (8, 76, x1)) 8 rfl rfl (hon 8 (by kernel_rfl)) (hz _ rfl)
      rw [hX.h1 (hon 8 (by kernel_rfl))] at e76
      have kk := (hX.k1 (hon 11 (by kernel_rfl))).2
      rw [hb_] at kk
      simp only [Bool.false_eq_true, if_false] at kk
      have hs0_ : w.cell? ⟨g1, 0, none⟩ = some (.slice none 0 0) := (blk_cell kk 0).trans rfl
      have hf0_ := blk_frozen kk 0
      clear kk
      refine skip_ (w1 := ?_) (by rfl) rfl ?_ ?_
      rotate_left
      · go_simp
        rfl
      exact hK.out _ _ ⟨vj, vc, vm, x0, x1, x2, v1, .slice Ax nx cx, g0, g1, g2, (by rw [ha.out]; exact putSel_none (v := undef) rfl), hX.store1 (hon 5 (by kernel_rfl)) (hon 10 (by kernel_rfl)) (hon 11 (by kernel_rfl)) (hon 12 (by kernel_rfl)) hb_⟩
    refine steps_cons ?_ ?_
    · rintro b a w ⟨vj, vc, vm, x0, x1, x2, v1, v2, g0, g1, g2, ha0, hX⟩ hb_ hon hoff
      have ha := Aside0.mk ha0
      clear ha0
      refine ⟨_, rfl, fun K hK => ?_⟩
      have e18 : a.tmps[18]? = some (.pointer (some ⟨g2, 0, none⟩)) := by rw [ha.out]; exact putSel_on (e := (12, 18, .pointer (some ⟨g2, 0, none⟩))) 12 rfl rfl (hon 12 (by kernel_rfl)) (hz _ rfl)
      have e77 : a.tmps[77]? = some (x2) := by rw [ha.out]; exact putSel_on (e := (9, 77, x2)) 9 rfl rfl (hon 9 (by kernel_rfl)) (hz _ rfl)
      rw [hX.h2 (hon 9 (by kernel_rfl))] at e77
      have kk := (hX.k2 (hon 12 (by kernel_rfl))).2
      rw [hb_] at kk
      simp only [Bool.false_eq_true, if_false] at kk
      have hs0_ : w.cell? ⟨g2, 0, none⟩ = some (.int .i64 0) := (blk_cell kk 0).trans rfl
      have hf0_ := blk_frozen kk 0
      have hs1_ : w.cell? ⟨g2, 1, none⟩ = some (.int .i64 0) := (blk_cell kk 1).trans rfl
      have hf1_ := blk_frozen kk 1
      have hs2_ : w.cell? ⟨g2, 2, none⟩ = some (.int .i64 0) := (blk_cell kk 2).trans rfl
      have hf2_ := blk_frozen kk 2
      have hs3_ : w.cell? ⟨g2, 3, none⟩ = some (.int .i64 0) := (blk_cell kk 3).trans rfl
      have hf3_ := blk_frozen kk 3
      clear kk
      refine skip_ (w1 := ?_) (by rfl) rfl ?_ ?_
      rotate_left
      · go_simp
        rfl
      exact hK.out _ _ ⟨vj, vc, vm, x0, x1, x2, v1, v2, g0, g1, g2, (by rw [ha.out]; exact putSel_none (v := undef) rfl), hX.store2 (hon 5 (by kernel_rfl)) (hon 10 (by kernel_rfl)) (hon 11 (by kernel_rfl)) (hon 12 (by kernel_rfl)) hb_⟩
    exact steps_nil
  · rintro b a w hall ⟨vj, vc, vm, x0, x1, x2, v1, v2, g0, g1, g2, ha, hX⟩
    have hs := putSel_size b [(0, 69, .agg #[.int .i64 0, .slice AS (List.replicate 8 (0 : Int)).length cS]), (1, 70, .agg #[.int .i64 1, .int .i64 1]), (3, 72, .agg #[.slice A ar.length cA]), (4, 73, .agg #[.int .i64 0, .int .i64 4]), (2, 71, vj), (5, 74, vc), (6, 68, vm), (7, 75, x0), (8, 76, x1), (9, 77, x2), (10, 16, .pointer (some ⟨g0, 0, none⟩)), (11, 17, .pointer (some ⟨g1, 0, none⟩)), (12, 18, .pointer (some ⟨g2, 0, none⟩))] a0
    have k2 := (hX.k2 (hall 12 (by kernel_rfl))).2
    rw [(hall 15 (by kernel_rfl)), if_pos rfl] at k2
    have k0 := (hX.k0 (hall 10 (by kernel_rfl))).2
    rw [(hall 13 (by kernel_rfl)), if_pos rfl] at k0
    have hoff : ∀ t, ([69, 70, 72, 73, 71, 74, 68, 75, 76, 77, 16, 17, 18] : List Nat).contains t = false → a.tmps[t]? = a0.tmps[t]? := by
      intro t ht
      rw [ha]
      refine putSel_off ?_
      simp only [List.contains_cons, List.contains_nil, Bool.or_false, Bool.or_eq_false_iff] at ht
      simp only [List.all_cons, List.all_nil, Bool.and_true, Bool.and_eq_true, Bool.not_eq_true']
      simpa only [eq_comm (a := t), Bool.beq_comm (a := t)] using ht
    refine hQ a w g0 g2 v1 (hB.on hX.hb (by rw [ha]; exact hs.1) (by rw [ha]; exact hs.2) (hoff 3 rfl) (hoff 4 rfl) (hoff 5 rfl)) hX.hb hoff ?_ k2 ?_ k0 (hX.hr (hall 5 (by kernel_rfl)))
    · rw [ha]; exact putSel_on (e := (12, 18, .pointer (some ⟨g2, 0, none⟩))) 12 rfl rfl (hall 12 (by kernel_rfl)) (hz _ rfl)
    · rw [ha]; exact putSel_on (e := (10, 16, .pointer (some ⟨g0, 0, none⟩))) 10 rfl rfl (hall 10 (by kernel_rfl)) (hz _ rfl)
end Go.Proofs.Yteehopjgmgelnaa.PFnTraps
