/- The walks of what FnTraps reaches: lines of the kit's print for this claim, turned by hand where they did not build. -/
/- The processor's step, by hand out of the print's pieces for this claim. -/
import Derived.Test.YteehopjgmgelnaaMFnTrapsx0
import Derived.Test.YteehopjgmgelnaaMFnTrapsx1
import Derived.Test.YteehopjgmgelnaaMFnTrapsx2
import Derived.Test.YteehopjgmgelnaaMFnTrapsx3
import Derived.Test.YteehopjgmgelnaaMFnTrapsx4
namespace Go.Proofs.Yteehopjgmgelnaa.PFnTraps
open Go.RowKit Go.Proofs.YteehopjgmgelnaaW.PrintWords Go.Proofs.YteehopjgmgelnaaW.PrintLast Go.Proofs.YteehopjgmgelnaaW.PrintMore
attribute [local go_sem] max2_int min2_int max_two min_two max_three min_three max_four min_four   -- for this text's walks alone
set_option linter.unusedVariables false
set_option linter.unusedSimpArgs false

abbrev ybN := @pw_below_drewN
abbrev ybA := @below_alloc
abbrev ybD := @below_drew1
abbrev ybS := @below_set
abbrev ykN := @blk_drewN
abbrev ykD := @blk_drew
abbrev ykA := @blk_alloc
abbrev yrA := @Kd.R_alloc
abbrev yrN := @Kd.R_drewN
abbrev yrD := @Kd.R_drew
abbrev ykB := @blk_below
abbrev yaM := @Aside0.mk
abbrev ykC := @blk_cell
abbrev ykL := @blk_lt
abbrev yrB := @Kd.R_below
abbrev ybT := @below_step
abbrev ybZ := @below_size
abbrev yrM := @Kd.R_mono
abbrev yrE := @Kd.R_ne
abbrev yrL := @Kd.R_lt
abbrev ylA := @List.setIfInBounds_toArray
abbrev ylZ := @List.set_cons_zero
abbrev ylS := @List.set_cons_succ
set_option maxHeartbeats 8000000 in
set_option maxRecDepth 100000 in
theorem impl_StepCpu.calls (k : Nat) (a0_0 : Int) (A0_1 : Option Addr) (c0_1 : Nat) (l0_1 : List Int) (A1 : Option Addr) (c1 : Nat) (l1 : List (S64)) (A2_0 : Option Addr) (c2_0 : Nat) (l2_0 : List Int) (a3_0 : Int) (a3_1 : Int) (a4 : Int) (r1 : Int) (r2 : List Int) (r3 : List Int) (r4 : Int) (r5 : Int) (r6 : Int) (r7 : Int) (w : World) (hr0_1 : Kd.C (Kd.int .i64) w A0_1 l0_1.length l0_1) (hc0_1 : l0_1.length ≤ c0_1) (hr1 : Kd.C k64 w A1 l1.length l1) (hc1 : l1.length ≤ c1) (hr2_0 : Kd.C (Kd.int .i64) w A2_0 l2_0.length l2_0) (hc2_0 : l2_0.length ≤ c2_0) (h : impl_StepCpu.f k a0_0 l0_1 l1 l2_0 a3_0 a3_1 a4 = some (r1, r2, r3, r4, r5, r6, r7)) :
    Calls Try.prog 38 #[.agg #[.int .i64 a0_0, .slice A0_1 l0_1.length c0_1], .slice A1 l1.length c1, .agg #[.slice A2_0 l2_0.length c2_0], .agg #[.int .i64 a3_0, .int .i64 a3_1], .int .i64 a4] w fun e w' => ∃ v1_ v2_ : Value, e = .returned (.tuple #[.agg #[.int .i64 r1, v1_], .agg #[v2_], .agg #[.int .i64 r4, .int .i64 r5, .int .i64 r6, .int .i64 r7]]) ∧ Kd.R (Kd.int .i64) 3 w' w.heap.size (fun k_ => some k_ ≠ (v2_ : Value).ownBlock) v1_ r2 ∧ Kd.R (Kd.int .i64) 3 w' w.heap.size (fun k_ => some k_ ≠ (v1_ : Value).ownBlock) v2_ r3 ∧ Below w.heap.size w w' := by
 have hu52 := Try.underlying52
 have hu29 := Try.underlying29
 have hu32 := Try.underlying32
 have hu60 := Try.underlying60
 have hu64 := Try.underlying64
 have HR0_1 := yaM hr0_1
 have HC0_1 := yaM hc0_1
 clear hr0_1 hc0_1
 have HR1 := yaM hr1
 have HC1 := yaM hc1
 clear hr1 hc1
 have HR2_0 := yaM hr2_0
 have HC2_0 := yaM hc2_0
 clear hr2_0 hc2_0
 have HB := yaM (Below.refl w.heap.size w)
 obtain ⟨⟨t194, t195⟩, A60, H⟩ := Option.bind_eq_some_iff.mp (show (impl_copyCpu.f a0_0 l0_1).bind _ = _ from h)
 clear h
 obtain ⟨t198, A70, H⟩ := Option.bind_eq_some_iff.mp H
 obtain ⟨t203, A80, H⟩ := Option.bind_eq_some_iff.mp H
 have A6 := yaM A60
 have A7 := yaM A70
 have A8 := yaM A80
 clear A60 A70 A80
 have HH := yaM H
 clear H
 go_enter Try.func38, Try.ntmps38
 try go_wp2_with (first | ((with_reducible refine gate_dst (N := 5) rfl ?_); refine box_event ?hg (N := 5) ?hd (cs := #[.int .i64 a0_0, .slice A0_1 l0_1.length c0_1]) (t := 52) ?hr ?_; (case hd => rfl); (case hg => rfl); (case hr => first | (go_simp; done) | (go_simp; rfl)); intro gb188 hg w510 hbox hb; have n0_ := yaM (ybT (by repeat (first | (with_reducible first | exact HB.out | apply ybA | apply ybN | apply ybD) | exact HB.out)) hb); have n1_ := yaM (hbox); have n2_ := yaM ((by rw [hg]; exact (ybZ (by repeat (first | (with_reducible first | exact HB.out | apply ybA | apply ybN | apply ybD) | exact HB.out))) : w.heap.size ≤ gb188)); have n3_ := yaM ((by rw [hg]; exact (ybZ (by repeat (first | (with_reducible first | exact HB.out | apply ybA | apply ybN | apply ybD) | exact HB.out))) : w.heap.size ≤ gb188)); clear HB; have HB := n0_; have BK188 := n1_; have GW188 := n2_; have GE188 := n3_; clear n0_ n1_ n2_ n3_; clear hb hbox hg) | ((with_reducible refine gate_dst (N := 7) rfl ?_); refine box_event ?hg (N := 7) ?hd (cs := #[.slice A2_0 l2_0.length c2_0]) (t := 29) ?hr ?_; (case hd => rfl); (case hg => rfl); (case hr => first | (go_simp; done) | (go_simp; rfl)); intro gb189 hg w511 hbox hb; have n0_ := yaM (ykB (by (with_reducible repeat (first | apply ykN | apply ykD | apply ykA)); exact BK188.out) hb); have n1_ := yaM (ybT (by repeat (first | (with_reducible first | exact HB.out | apply ybA | apply ybN | apply ybD) | exact HB.out)) hb); have n2_ := yaM (hbox); have n3_ := yaM ((by rw [hg]; exact (ybZ (by repeat (first | (with_reducible first | exact HB.out | apply ybA | apply ybN | apply ybD) | exact HB.out))) : w.heap.size ≤ gb189)); have n4_ := yaM ((by rw [hg]; exact (ybZ (by repeat (first | (with_reducible first | exact HB.out | apply ybA | apply ybN | apply ybD) | exact HB.out))) : w.heap.size ≤ gb189)); have n5_ := yaM ((by rw [hg]; exact Nat.ne_of_lt (ykL (by (with_reducible repeat (first | apply ykN | apply ykD | apply ykA)); exact BK188.out)) : gb188 ≠ gb189)); have n6_ := yaM ((by rw [hg]; exact Nat.ne_of_gt (ykL (by (with_reducible repeat (first | apply ykN | apply ykD | apply ykA)); exact BK188.out)) : gb189 ≠ gb188)); clear BK188; clear HB; have BK188 := n0_; have HB := n1_; have BK189 := n2_; have GW189 := n3_; have GE189 := n4_; have NB188_189 := n5_; have NB189_188 := n6_; clear n0_ n1_ n2_ n3_ n4_ n5_ n6_; clear hb hbox hg) | ((with_reducible refine gate_dst (N := 8) rfl ?_); refine box_event ?hg (N := 8) ?hd (cs := #[.int .i64 a3_0, .int .i64 a3_1]) (t := 32) ?hr ?_; (case hd => rfl); (case hg => rfl); (case hr => first | (go_simp; done) | (go_simp; rfl)); intro gb190 hg w512 hbox hb; have n0_ := yaM (ykB (by (with_reducible repeat (first | apply ykN | apply ykD | apply ykA)); exact BK188.out) hb); have n1_ := yaM (ykB (by (with_reducible repeat (first | apply ykN | apply ykD | apply ykA)); exact BK189.out) hb); have n2_ := yaM (ybT (by repeat (first | (with_reducible first | exact HB.out | apply ybA | apply ybN | apply ybD) | exact HB.out)) hb); have n3_ := yaM (hbox); have n4_ := yaM ((by rw [hg]; exact (ybZ (by repeat (first | (with_reducible first | exact HB.out | apply ybA | apply ybN | apply ybD) | exact HB.out))) : w.heap.size ≤ gb190)); have n5_ := yaM ((by rw [hg]; exact (ybZ (by repeat (first | (with_reducible first | exact HB.out | apply ybA | apply ybN | apply ybD) | exact HB.out))) : w.heap.size ≤ gb190)); have n6_ := yaM ((by rw [hg]; exact Nat.ne_of_lt (ykL (by (with_reducible repeat (first | apply ykN | apply ykD | apply ykA)); exact BK188.out)) : gb188 ≠ gb190)); have n7_ := yaM ((by rw [hg]; exact Nat.ne_of_gt (ykL (by (with_reducible repeat (first | apply ykN | apply ykD | apply ykA)); exact BK188.out)) : gb190 ≠ gb188)); have n8_ := yaM ((by rw [hg]; exact Nat.ne_of_lt (ykL (by (with_reducible repeat (first | apply ykN | apply ykD | apply ykA)); exact BK189.out)) : gb189 ≠ gb190)); have n9_ := yaM ((by rw [hg]; exact Nat.ne_of_gt (ykL (by (with_reducible repeat (first | apply ykN | apply ykD | apply ykA)); exact BK189.out)) : gb190 ≠ gb189)); clear BK188; clear BK189; clear HB; have BK188 := n0_; have BK189 := n1_; have HB := n2_; have BK190 := n3_; have GW190 := n4_; have GE190 := n5_; have NB188_190 := n6_; have NB190_188 := n7_; have NB189_190 := n8_; have NB190_189 := n9_; clear n0_ n1_ n2_ n3_ n4_ n5_ n6_ n7_ n8_ n9_; clear hb hbox hg) | ((with_reducible refine gate_dst (N := 10) rfl ?_); refine box_event ?hg (N := 10) ?hd (cs := #[.int .i64 0, .slice none 0 0]) (t := 52) ?hr ?_; (case hd => rfl); (case hg => rfl); (case hr => first | (go_simp; done) | (go_simp; rfl)); intro gb191 hg w513 hbox hb; have n0_ := yaM (ykB (by (with_reducible repeat (first | apply ykN | apply ykD | apply ykA)); exact BK188.out) hb); have n1_ := yaM (ykB (by (with_reducible repeat (first | apply ykN | apply ykD | apply ykA)); exact BK189.out) hb); have n2_ := yaM (ykB (by (with_reducible repeat (first | apply ykN | apply ykD | apply ykA)); exact BK190.out) hb); have n3_ := yaM (ybT (by repeat (first | (with_reducible first | exact HB.out | apply ybA | apply ybN | apply ybD) | exact HB.out)) hb); have n4_ := yaM (hbox); have n5_ := yaM ((by rw [hg]; exact (ybZ (by repeat (first | (with_reducible first | exact HB.out | apply ybA | apply ybN | apply ybD) | exact HB.out))) : w.heap.size ≤ gb191)); have n6_ := yaM ((by rw [hg]; exact (ybZ (by repeat (first | (with_reducible first | exact HB.out | apply ybA | apply ybN | apply ybD) | exact HB.out))) : w.heap.size ≤ gb191)); have n7_ := yaM ((by rw [hg]; exact Nat.ne_of_lt (ykL (by (with_reducible repeat (first | apply ykN | apply ykD | apply ykA)); exact BK188.out)) : gb188 ≠ gb191)); have n8_ := yaM ((by rw [hg]; exact Nat.ne_of_gt (ykL (by (with_reducible repeat (first | apply ykN | apply ykD | apply ykA)); exact BK188.out)) : gb191 ≠ gb188)); have n9_ := yaM ((by rw [hg]; exact Nat.ne_of_lt (ykL (by (with_reducible repeat (first | apply ykN | apply ykD | apply ykA)); exact BK189.out)) : gb189 ≠ gb191)); have n10_ := yaM ((by rw [hg]; exact Nat.ne_of_gt (ykL (by (with_reducible repeat (first | apply ykN | apply ykD | apply ykA)); exact BK189.out)) : gb191 ≠ gb189)); have n11_ := yaM ((by rw [hg]; exact Nat.ne_of_lt (ykL (by (with_reducible repeat (first | apply ykN | apply ykD | apply ykA)); exact BK190.out)) : gb190 ≠ gb191)); have n12_ := yaM ((by rw [hg]; exact Nat.ne_of_gt (ykL (by (with_reducible repeat (first | apply ykN | apply ykD | apply ykA)); exact BK190.out)) : gb191 ≠ gb190)); clear BK188; clear BK189; clear BK190; clear HB; have BK188 := n0_; have BK189 := n1_; have BK190 := n2_; have HB := n3_; have BK191 := n4_; have GW191 := n5_; have GE191 := n6_; have NB188_191 := n7_; have NB191_188 := n8_; have NB189_191 := n9_; have NB191_189 := n10_; have NB190_191 := n11_; have NB191_190 := n12_; clear n0_ n1_ n2_ n3_ n4_ n5_ n6_ n7_ n8_ n9_ n10_ n11_ n12_; clear hb hbox hg) | ((with_reducible refine gate_dst (N := 11) rfl ?_); refine box_event ?hg (N := 11) ?hd (cs := #[.slice none 0 0]) (t := 29) ?hr ?_; (case hd => rfl); (case hg => rfl); (case hr => first | (go_simp; done) | (go_simp; rfl)); intro gb192 hg w514 hbox hb; have n0_ := yaM (ykB (by (with_reducible repeat (first | apply ykN | apply ykD | apply ykA)); exact BK188.out) hb); have n1_ := yaM (ykB (by (with_reducible repeat (first | apply ykN | apply ykD | apply ykA)); exact BK189.out) hb); have n2_ := yaM (ykB (by (with_reducible repeat (first | apply ykN | apply ykD | apply ykA)); exact BK190.out) hb); have n3_ := yaM (ykB (by (with_reducible repeat (first | apply ykN | apply ykD | apply ykA)); exact BK191.out) hb); have n4_ := yaM (ybT (by repeat (first | (with_reducible first | exact HB.out | apply ybA | apply ybN | apply ybD | refine ybS ?_ GE191.out) | exact HB.out)) hb); have n5_ := yaM (hbox); have n6_ := yaM ((by rw [hg]; exact (ybZ (by repeat (first | (with_reducible first | exact HB.out | apply ybA | apply ybN | apply ybD | refine ybS ?_ GE191.out) | exact HB.out))) : w.heap.size ≤ gb192)); have n7_ := yaM ((by rw [hg]; exact (ybZ (by repeat (first | (with_reducible first | exact HB.out | apply ybA | apply ybN | apply ybD | refine ybS ?_ GE191.out) | exact HB.out))) : w.heap.size ≤ gb192)); have n8_ := yaM ((by rw [hg]; exact Nat.ne_of_lt (ykL (by (with_reducible repeat (first | apply ykN | apply ykD | apply ykA)); exact BK188.out)) : gb188 ≠ gb192)); have n9_ := yaM ((by rw [hg]; exact Nat.ne_of_gt (ykL (by (with_reducible repeat (first | apply ykN | apply ykD | apply ykA)); exact BK188.out)) : gb192 ≠ gb188)); have n10_ := yaM ((by rw [hg]; exact Nat.ne_of_lt (ykL (by (with_reducible repeat (first | apply ykN | apply ykD | apply ykA)); exact BK189.out)) : gb189 ≠ gb192)); have n11_ := yaM ((by rw [hg]; exact Nat.ne_of_gt (ykL (by (with_reducible repeat (first | apply ykN | apply ykD | apply ykA)); exact BK189.out)) : gb192 ≠ gb189)); have n12_ := yaM ((by rw [hg]; exact Nat.ne_of_lt (ykL (by (with_reducible repeat (first | apply ykN | apply ykD | apply ykA)); exact BK190.out)) : gb190 ≠ gb192)); have n13_ := yaM ((by rw [hg]; exact Nat.ne_of_gt (ykL (by (with_reducible repeat (first | apply ykN | apply ykD | apply ykA)); exact BK190.out)) : gb192 ≠ gb190)); have n14_ := yaM ((by rw [hg]; exact Nat.ne_of_lt (ykL (by (with_reducible repeat (first | apply ykN | apply ykD | apply ykA)); exact BK191.out)) : gb191 ≠ gb192)); have n15_ := yaM ((by rw [hg]; exact Nat.ne_of_gt (ykL (by (with_reducible repeat (first | apply ykN | apply ykD | apply ykA)); exact BK191.out)) : gb192 ≠ gb191)); clear BK188; clear BK189; clear BK190; clear BK191; clear HB; have BK188 := n0_; have BK189 := n1_; have BK190 := n2_; have BK191 := n3_; have HB := n4_; have BK192 := n5_; have GW192 := n6_; have GE192 := n7_; have NB188_192 := n8_; have NB192_188 := n9_; have NB189_192 := n10_; have NB192_189 := n11_; have NB190_192 := n12_; have NB192_190 := n13_; have NB191_192 := n14_; have NB192_191 := n15_; clear n0_ n1_ n2_ n3_ n4_ n5_ n6_ n7_ n8_ n9_ n10_ n11_ n12_ n13_ n14_ n15_; clear hb hbox hg) | ((with_reducible refine gate_dst (N := 12) rfl ?_); refine box_event ?hg (N := 12) ?hd (cs := #[.int .i64 0, .int .i64 0, .int .i64 0, .int .i64 0]) (t := 60) ?hr ?_; (case hd => rfl); (case hg => rfl); (case hr => first | (go_simp; done) | (go_simp; rfl)); intro gb193 hg w515 hbox hb; have n0_ := yaM (ykB (by (with_reducible repeat (first | apply ykN | apply ykD | apply ykA)); exact BK188.out) hb); have n1_ := yaM (ykB (by (with_reducible repeat (first | apply ykN | apply ykD | apply ykA)); exact BK189.out) hb); have n2_ := yaM (ykB (by (with_reducible repeat (first | apply ykN | apply ykD | apply ykA)); exact BK190.out) hb); have n3_ := yaM (ykB (by (with_reducible repeat (first | apply ykN | apply ykD | apply ykA)); exact BK191.out) hb); have n4_ := yaM (ykB (by (with_reducible repeat (first | apply ykN | apply ykD | apply ykA)); exact BK192.out) hb); have n5_ := yaM (ybT (by repeat (first | (with_reducible first | exact HB.out | apply ybA | apply ybN | apply ybD | refine ybS ?_ GE191.out | refine ybS ?_ GE192.out) | exact HB.out)) hb); have n6_ := yaM (hbox); have n7_ := yaM ((by rw [hg]; exact (ybZ (by repeat (first | (with_reducible first | exact HB.out | apply ybA | apply ybN | apply ybD | refine ybS ?_ GE191.out | refine ybS ?_ GE192.out) | exact HB.out))) : w.heap.size ≤ gb193)); have n8_ := yaM ((by rw [hg]; exact (ybZ (by repeat (first | (with_reducible first | exact HB.out | apply ybA | apply ybN | apply ybD | refine ybS ?_ GE191.out | refine ybS ?_ GE192.out) | exact HB.out))) : w.heap.size ≤ gb193)); have n9_ := yaM ((by rw [hg]; exact Nat.ne_of_lt (ykL (by (with_reducible repeat (first | apply ykN | apply ykD | apply ykA)); exact BK188.out)) : gb188 ≠ gb193)); have n10_ := yaM ((by rw [hg]; exact Nat.ne_of_gt (ykL (by (with_reducible repeat (first | apply ykN | apply ykD | apply ykA)); exact BK188.out)) : gb193 ≠ gb188)); have n11_ := yaM ((by rw [hg]; exact Nat.ne_of_lt (ykL (by (with_reducible repeat (first | apply ykN | apply ykD | apply ykA)); exact BK189.out)) : gb189 ≠ gb193)); have n12_ := yaM ((by rw [hg]; exact Nat.ne_of_gt (ykL (by (with_reducible repeat (first | apply ykN | apply ykD | apply ykA)); exact BK189.out)) : gb193 ≠ gb189)); have n13_ := yaM ((by rw [hg]; exact Nat.ne_of_lt (ykL (by (with_reducible repeat (first | apply ykN | apply ykD | apply ykA)); exact BK190.out)) : gb190 ≠ gb193)); have n14_ := yaM ((by rw [hg]; exact Nat.ne_of_gt (ykL (by (with_reducible repeat (first | apply ykN | apply ykD | apply ykA)); exact BK190.out)) : gb193 ≠ gb190)); have n15_ := yaM ((by rw [hg]; exact Nat.ne_of_lt (ykL (by (with_reducible repeat (first | apply ykN | apply ykD | apply ykA)); exact BK191.out)) : gb191 ≠ gb193)); have n16_ := yaM ((by rw [hg]; exact Nat.ne_of_gt (ykL (by (with_reducible repeat (first | apply ykN | apply ykD | apply ykA)); exact BK191.out)) : gb193 ≠ gb191)); have n17_ := yaM ((by rw [hg]; exact Nat.ne_of_lt (ykL (by (with_reducible repeat (first | apply ykN | apply ykD | apply ykA)); exact BK192.out)) : gb192 ≠ gb193)); have n18_ := yaM ((by rw [hg]; exact Nat.ne_of_gt (ykL (by (with_reducible repeat (first | apply ykN | apply ykD | apply ykA)); exact BK192.out)) : gb193 ≠ gb192)); clear BK188; clear BK189; clear BK190; clear BK191; clear BK192; clear HB; have BK188 := n0_; have BK189 := n1_; have BK190 := n2_; have BK191 := n3_; have BK192 := n4_; have HB := n5_; have BK193 := n6_; have GW193 := n7_; have GE193 := n8_; have NB188_193 := n9_; have NB193_188 := n10_; have NB189_193 := n11_; have NB193_189 := n12_; have NB190_193 := n13_; have NB193_190 := n14_; have NB191_193 := n15_; have NB193_191 := n16_; have NB192_193 := n17_; have NB193_192 := n18_; clear n0_ n1_ n2_ n3_ n4_ n5_ n6_ n7_ n8_ n9_ n10_ n11_ n12_ n13_ n14_ n15_ n16_ n17_ n18_; clear hb hbox hg))
 have n0_ := yaM (ykD BK188.out)
 have n1_ := yaM (ykD BK189.out)
 have n2_ := yaM (ykD BK190.out)
 have n3_ := yaM (ykD BK191.out)
 have n4_ := yaM (ykD BK192.out)
 have n5_ := yaM (ykD BK193.out)
 have n6_ := yaM (ybD HB.out)
 clear BK188
 clear BK189
 clear BK190
 clear BK191
 clear BK192
 clear BK193
 clear HB
 have BK188 := n0_
 have BK189 := n1_
 have BK190 := n2_
 have BK191 := n3_
 have BK192 := n4_
 have BK193 := n5_
 have HB := n6_
 clear n0_ n1_ n2_ n3_ n4_ n5_ n6_
 refine start_ (n := 8) (S := fun w' => w'.cell? ⟨gb188, 0, none⟩ = some (.int .i64 a0_0) ∧ w'.cell? ⟨gb188, 1, none⟩ = some (.slice A0_1 l0_1.length c0_1) ∧ w'.cell? ⟨gb189, 0, none⟩ = some (.slice A2_0 l2_0.length c2_0)) (ds := []) #[false, false, false, false, false, false, false, false] (by kernel_rfl) rfl rfl ⟨(ykC BK188.out 0).trans rfl, (ykC BK188.out 1).trans rfl, (ykC BK189.out 0).trans rfl⟩ (fun hHeld => ?_); refine with_tabW impl_StepCpu.tab1 impl_StepCpu.bits1 (fun HT_ HW_ => ?_)
 generalize w515.drew = w516 at BK188 BK189 BK190 BK191 BK192 BK193 HB hHeld ⊢
 refine take_ (i := 0) (N := some 19) (v := ?_) (a' := ?_) #[true, false, false, false, false, false, false, false] rfl rfl (take_ofW HT_.out HW_.out (by kernel_rfl)) (fun _ _ _ h => h) (Or.inl ⟨by rfl, ?_⟩) hHeld ?_ ?_
 rotate_left
 ·rintro w' ⟨s0, s1, s2⟩
  go_simp
  with_reducible rfl
 rotate_left
 ·simp only [Act.put, ylA, ylZ, ylS, i64_w, i32_w]
  rfl
 refine take_ (i := 2) (N := some 21) (v := ?_) (a' := ?_) #[true, false, true, false, false, false, false, false] rfl rfl (take_ofW HT_.out HW_.out (by kernel_rfl)) (fun _ _ _ h => h) (Or.inl ⟨by rfl, ?_⟩) hHeld ?_ ?_
 rotate_left
 ·rintro w' ⟨s0, s1, s2⟩
  go_simp
  with_reducible rfl
 rotate_left
 ·simp only [Act.put, ylA, ylZ, ylS, i64_w, i32_w]
  rfl
 refine join_ (σ := Value × Value × Nat × Nat) 2 #[true, true, true, true, true, true, false, false] (fun s_ => [(20, .agg #[.int .i64 t194, s_.1]), (22, .agg #[s_.2.1]), (13, .pointer (some ⟨s_.2.2.1, 0, none⟩)), (14, .pointer (some ⟨s_.2.2.2, 0, none⟩))]) (fun s_ w' => (w'.cell? ⟨gb188, 0, none⟩ = some (.int .i64 a0_0) ∧ w'.cell? ⟨gb188, 1, none⟩ = some (.slice A0_1 l0_1.length c0_1) ∧ w'.cell? ⟨gb189, 0, none⟩ = some (.slice A2_0 l2_0.length c2_0)) ∧ (Kd.R (Kd.int .i64) 3 w' w.heap.size (fun k_ => some k_ ≠ (s_.2.1 : Value).ownBlock) s_.1 t195) ∧ (Kd.R (Kd.int .i64) 3 w' w.heap.size (fun k_ => some k_ ≠ (s_.1 : Value).ownBlock) s_.2.1 t198) ∧ (w'.heap[gb188]? = some (.cells #[.int .i64 a0_0, .slice A0_1 l0_1.length c0_1] 52 (0, 0))) ∧ (w'.heap[gb189]? = some (.cells #[.slice A2_0 l2_0.length c2_0] 29 (0, 0))) ∧ (w'.heap[gb190]? = some (.cells #[.int .i64 a3_0, .int .i64 a3_1] 32 (0, 0))) ∧ (w'.heap[gb191]? = some (.cells #[.int .i64 0, .slice none 0 0] 52 (0, 0))) ∧ (w'.heap[gb192]? = some (.cells #[.slice none 0 0] 29 (0, 0))) ∧ (w'.heap[gb193]? = some (.cells #[.int .i64 0, .int .i64 0, .int .i64 0, .int .i64 0] 60 (0, 0))) ∧ (w'.heap[s_.2.2.1]? = some (.cells #[.int .i64 0, .slice none 0 0] 52 (0, 0))) ∧ (w'.heap[s_.2.2.2]? = some (.cells #[.slice none 0 0] 29 (0, 0))) ∧ (w.heap.size ≤ s_.2.2.1) ∧ (w.heap.size ≤ s_.2.2.1) ∧ (gb188 ≠ s_.2.2.1) ∧ (s_.2.2.1 ≠ gb188) ∧ (gb189 ≠ s_.2.2.1) ∧ (s_.2.2.1 ≠ gb189) ∧ (gb190 ≠ s_.2.2.1) ∧ (s_.2.2.1 ≠ gb190) ∧ (gb191 ≠ s_.2.2.1) ∧ (s_.2.2.1 ≠ gb191) ∧ (gb192 ≠ s_.2.2.1) ∧ (s_.2.2.1 ≠ gb192) ∧ (gb193 ≠ s_.2.2.1) ∧ (s_.2.2.1 ≠ gb193) ∧ (s_.2.2.2 ≠ s_.2.2.1) ∧ (s_.2.2.1 ≠ s_.2.2.2) ∧ (w.heap.size ≤ s_.2.2.2) ∧ (w.heap.size ≤ s_.2.2.2) ∧ (gb188 ≠ s_.2.2.2) ∧ (s_.2.2.2 ≠ gb188) ∧ (gb189 ≠ s_.2.2.2) ∧ (s_.2.2.2 ≠ gb189) ∧ (gb190 ≠ s_.2.2.2) ∧ (s_.2.2.2 ≠ gb190) ∧ (gb191 ≠ s_.2.2.2) ∧ (s_.2.2.2 ≠ gb191) ∧ (gb192 ≠ s_.2.2.2) ∧ (s_.2.2.2 ≠ gb192) ∧ (gb193 ≠ s_.2.2.2) ∧ (s_.2.2.2 ≠ gb193) ∧ (Below w.heap.size w w')) ?_ ?_
 rotate_left
 ·intro hJ1_3_4_5
  refine join_ (σ := Value × Value × Nat) 3 #[true, true, true, true, true, false, false, false] (fun s_ => [(20, .agg #[.int .i64 t194, s_.1]), (22, .agg #[s_.2.1]), (13, .pointer (some ⟨s_.2.2, 0, none⟩))]) (fun s_ w' => (w'.cell? ⟨gb188, 0, none⟩ = some (.int .i64 a0_0) ∧ w'.cell? ⟨gb188, 1, none⟩ = some (.slice A0_1 l0_1.length c0_1) ∧ w'.cell? ⟨gb189, 0, none⟩ = some (.slice A2_0 l2_0.length c2_0)) ∧ (Kd.R (Kd.int .i64) 3 w' w.heap.size (fun k_ => some k_ ≠ (s_.2.1 : Value).ownBlock) s_.1 t195) ∧ (Kd.R (Kd.int .i64) 3 w' w.heap.size (fun k_ => some k_ ≠ (s_.1 : Value).ownBlock) s_.2.1 t198) ∧ (w'.heap[gb188]? = some (.cells #[.int .i64 a0_0, .slice A0_1 l0_1.length c0_1] 52 (0, 0))) ∧ (w'.heap[gb189]? = some (.cells #[.slice A2_0 l2_0.length c2_0] 29 (0, 0))) ∧ (w'.heap[gb190]? = some (.cells #[.int .i64 a3_0, .int .i64 a3_1] 32 (0, 0))) ∧ (w'.heap[gb191]? = some (.cells #[.int .i64 0, .slice none 0 0] 52 (0, 0))) ∧ (w'.heap[gb192]? = some (.cells #[.slice none 0 0] 29 (0, 0))) ∧ (w'.heap[gb193]? = some (.cells #[.int .i64 0, .int .i64 0, .int .i64 0, .int .i64 0] 60 (0, 0))) ∧ (w'.heap[s_.2.2]? = some (.cells #[.int .i64 0, .slice none 0 0] 52 (0, 0))) ∧ (w.heap.size ≤ s_.2.2) ∧ (w.heap.size ≤ s_.2.2) ∧ (gb188 ≠ s_.2.2) ∧ (s_.2.2 ≠ gb188) ∧ (gb189 ≠ s_.2.2) ∧ (s_.2.2 ≠ gb189) ∧ (gb190 ≠ s_.2.2) ∧ (s_.2.2 ≠ gb190) ∧ (gb191 ≠ s_.2.2) ∧ (s_.2.2 ≠ gb191) ∧ (gb192 ≠ s_.2.2) ∧ (s_.2.2 ≠ gb192) ∧ (gb193 ≠ s_.2.2) ∧ (s_.2.2 ≠ gb193) ∧ (Below w.heap.size w w')) ?_ ?_
  rotate_left
  ·intro hJ1_3_4
   refine join_ (σ := Value × Value × Nat) 3 #[true, true, true, true, false, true, false, false] (fun s_ => [(20, .agg #[.int .i64 t194, s_.1]), (22, .agg #[s_.2.1]), (14, .pointer (some ⟨s_.2.2, 0, none⟩))]) (fun s_ w' => (w'.cell? ⟨gb188, 0, none⟩ = some (.int .i64 a0_0) ∧ w'.cell? ⟨gb188, 1, none⟩ = some (.slice A0_1 l0_1.length c0_1) ∧ w'.cell? ⟨gb189, 0, none⟩ = some (.slice A2_0 l2_0.length c2_0)) ∧ (Kd.R (Kd.int .i64) 3 w' w.heap.size (fun k_ => some k_ ≠ (s_.2.1 : Value).ownBlock) s_.1 t195) ∧ (Kd.R (Kd.int .i64) 3 w' w.heap.size (fun k_ => some k_ ≠ (s_.1 : Value).ownBlock) s_.2.1 t198) ∧ (w'.heap[gb188]? = some (.cells #[.int .i64 a0_0, .slice A0_1 l0_1.length c0_1] 52 (0, 0))) ∧ (w'.heap[gb189]? = some (.cells #[.slice A2_0 l2_0.length c2_0] 29 (0, 0))) ∧ (w'.heap[gb190]? = some (.cells #[.int .i64 a3_0, .int .i64 a3_1] 32 (0, 0))) ∧ (w'.heap[gb191]? = some (.cells #[.int .i64 0, .slice none 0 0] 52 (0, 0))) ∧ (w'.heap[gb192]? = some (.cells #[.slice none 0 0] 29 (0, 0))) ∧ (w'.heap[gb193]? = some (.cells #[.int .i64 0, .int .i64 0, .int .i64 0, .int .i64 0] 60 (0, 0))) ∧ (w'.heap[s_.2.2]? = some (.cells #[.slice none 0 0] 29 (0, 0))) ∧ (w.heap.size ≤ s_.2.2) ∧ (w.heap.size ≤ s_.2.2) ∧ (gb188 ≠ s_.2.2) ∧ (s_.2.2 ≠ gb188) ∧ (gb189 ≠ s_.2.2) ∧ (s_.2.2 ≠ gb189) ∧ (gb190 ≠ s_.2.2) ∧ (s_.2.2 ≠ gb190) ∧ (gb191 ≠ s_.2.2) ∧ (s_.2.2 ≠ gb191) ∧ (gb192 ≠ s_.2.2) ∧ (s_.2.2 ≠ gb192) ∧ (gb193 ≠ s_.2.2) ∧ (s_.2.2 ≠ gb193) ∧ (Below w.heap.size w w')) ?_ ?_
   rotate_left
   ·intro hJ1_3_5
    refine join_ (σ := Value × Nat × Nat) 3 #[true, true, true, false, true, true, false, false] (fun s_ => [(20, .agg #[.int .i64 t194, s_.1]), (13, .pointer (some ⟨s_.2.1, 0, none⟩)), (14, .pointer (some ⟨s_.2.2, 0, none⟩))]) (fun s_ w' => (w'.cell? ⟨gb188, 0, none⟩ = some (.int .i64 a0_0) ∧ w'.cell? ⟨gb188, 1, none⟩ = some (.slice A0_1 l0_1.length c0_1) ∧ w'.cell? ⟨gb189, 0, none⟩ = some (.slice A2_0 l2_0.length c2_0)) ∧ (Kd.R (Kd.int .i64) 3 w' w.heap.size (fun _ => True) s_.1 t195) ∧ (w'.heap[gb188]? = some (.cells #[.int .i64 a0_0, .slice A0_1 l0_1.length c0_1] 52 (0, 0))) ∧ (w'.heap[gb189]? = some (.cells #[.slice A2_0 l2_0.length c2_0] 29 (0, 0))) ∧ (w'.heap[gb190]? = some (.cells #[.int .i64 a3_0, .int .i64 a3_1] 32 (0, 0))) ∧ (w'.heap[gb191]? = some (.cells #[.int .i64 0, .slice none 0 0] 52 (0, 0))) ∧ (w'.heap[gb192]? = some (.cells #[.slice none 0 0] 29 (0, 0))) ∧ (w'.heap[gb193]? = some (.cells #[.int .i64 0, .int .i64 0, .int .i64 0, .int .i64 0] 60 (0, 0))) ∧ (w'.heap[s_.2.1]? = some (.cells #[.int .i64 0, .slice none 0 0] 52 (0, 0))) ∧ (w'.heap[s_.2.2]? = some (.cells #[.slice none 0 0] 29 (0, 0))) ∧ (w.heap.size ≤ s_.2.1) ∧ (w.heap.size ≤ s_.2.1) ∧ (gb188 ≠ s_.2.1) ∧ (s_.2.1 ≠ gb188) ∧ (gb189 ≠ s_.2.1) ∧ (s_.2.1 ≠ gb189) ∧ (gb190 ≠ s_.2.1) ∧ (s_.2.1 ≠ gb190) ∧ (gb191 ≠ s_.2.1) ∧ (s_.2.1 ≠ gb191) ∧ (gb192 ≠ s_.2.1) ∧ (s_.2.1 ≠ gb192) ∧ (gb193 ≠ s_.2.1) ∧ (s_.2.1 ≠ gb193) ∧ (s_.2.2 ≠ s_.2.1) ∧ (s_.2.1 ≠ s_.2.2) ∧ (w.heap.size ≤ s_.2.2) ∧ (w.heap.size ≤ s_.2.2) ∧ (gb188 ≠ s_.2.2) ∧ (s_.2.2 ≠ gb188) ∧ (gb189 ≠ s_.2.2) ∧ (s_.2.2 ≠ gb189) ∧ (gb190 ≠ s_.2.2) ∧ (s_.2.2 ≠ gb190) ∧ (gb191 ≠ s_.2.2) ∧ (s_.2.2 ≠ gb191) ∧ (gb192 ≠ s_.2.2) ∧ (s_.2.2 ≠ gb192) ∧ (gb193 ≠ s_.2.2) ∧ (s_.2.2 ≠ gb193) ∧ (Below w.heap.size w w')) ?_ ?_
    rotate_left
    ·intro hJ1_4_5
     refine join_ (σ := Value × Value) 4 #[true, true, true, true, false, false, false, false] (fun s_ => [(20, .agg #[.int .i64 t194, s_.1]), (22, .agg #[s_.2])]) (fun s_ w' => (w'.cell? ⟨gb188, 0, none⟩ = some (.int .i64 a0_0) ∧ w'.cell? ⟨gb188, 1, none⟩ = some (.slice A0_1 l0_1.length c0_1) ∧ w'.cell? ⟨gb189, 0, none⟩ = some (.slice A2_0 l2_0.length c2_0)) ∧ (Kd.R (Kd.int .i64) 3 w' w.heap.size (fun k_ => some k_ ≠ (s_.2 : Value).ownBlock) s_.1 t195) ∧ (Kd.R (Kd.int .i64) 3 w' w.heap.size (fun k_ => some k_ ≠ (s_.1 : Value).ownBlock) s_.2 t198) ∧ (w'.heap[gb188]? = some (.cells #[.int .i64 a0_0, .slice A0_1 l0_1.length c0_1] 52 (0, 0))) ∧ (w'.heap[gb189]? = some (.cells #[.slice A2_0 l2_0.length c2_0] 29 (0, 0))) ∧ (w'.heap[gb190]? = some (.cells #[.int .i64 a3_0, .int .i64 a3_1] 32 (0, 0))) ∧ (w'.heap[gb191]? = some (.cells #[.int .i64 0, .slice none 0 0] 52 (0, 0))) ∧ (w'.heap[gb192]? = some (.cells #[.slice none 0 0] 29 (0, 0))) ∧ (w'.heap[gb193]? = some (.cells #[.int .i64 0, .int .i64 0, .int .i64 0, .int .i64 0] 60 (0, 0))) ∧ (Below w.heap.size w w')) ?_ ?_
     rotate_left
     ·intro hJ1_3
      refine join_ (σ := Value × Nat) 4 #[true, true, true, false, true, false, false, false] (fun s_ => [(20, .agg #[.int .i64 t194, s_.1]), (13, .pointer (some ⟨s_.2, 0, none⟩))]) (fun s_ w' => (w'.cell? ⟨gb188, 0, none⟩ = some (.int .i64 a0_0) ∧ w'.cell? ⟨gb188, 1, none⟩ = some (.slice A0_1 l0_1.length c0_1) ∧ w'.cell? ⟨gb189, 0, none⟩ = some (.slice A2_0 l2_0.length c2_0)) ∧ (Kd.R (Kd.int .i64) 3 w' w.heap.size (fun _ => True) s_.1 t195) ∧ (w'.heap[gb188]? = some (.cells #[.int .i64 a0_0, .slice A0_1 l0_1.length c0_1] 52 (0, 0))) ∧ (w'.heap[gb189]? = some (.cells #[.slice A2_0 l2_0.length c2_0] 29 (0, 0))) ∧ (w'.heap[gb190]? = some (.cells #[.int .i64 a3_0, .int .i64 a3_1] 32 (0, 0))) ∧ (w'.heap[gb191]? = some (.cells #[.int .i64 0, .slice none 0 0] 52 (0, 0))) ∧ (w'.heap[gb192]? = some (.cells #[.slice none 0 0] 29 (0, 0))) ∧ (w'.heap[gb193]? = some (.cells #[.int .i64 0, .int .i64 0, .int .i64 0, .int .i64 0] 60 (0, 0))) ∧ (w'.heap[s_.2]? = some (.cells #[.int .i64 0, .slice none 0 0] 52 (0, 0))) ∧ (w.heap.size ≤ s_.2) ∧ (w.heap.size ≤ s_.2) ∧ (gb188 ≠ s_.2) ∧ (s_.2 ≠ gb188) ∧ (gb189 ≠ s_.2) ∧ (s_.2 ≠ gb189) ∧ (gb190 ≠ s_.2) ∧ (s_.2 ≠ gb190) ∧ (gb191 ≠ s_.2) ∧ (s_.2 ≠ gb191) ∧ (gb192 ≠ s_.2) ∧ (s_.2 ≠ gb192) ∧ (gb193 ≠ s_.2) ∧ (s_.2 ≠ gb193) ∧ (Below w.heap.size w w')) ?_ ?_
      rotate_left
      ·intro hJ1_4
       refine join_ (σ := Value × Nat) 4 #[true, true, true, false, false, true, false, false] (fun s_ => [(20, .agg #[.int .i64 t194, s_.1]), (14, .pointer (some ⟨s_.2, 0, none⟩))]) (fun s_ w' => (w'.cell? ⟨gb188, 0, none⟩ = some (.int .i64 a0_0) ∧ w'.cell? ⟨gb188, 1, none⟩ = some (.slice A0_1 l0_1.length c0_1) ∧ w'.cell? ⟨gb189, 0, none⟩ = some (.slice A2_0 l2_0.length c2_0)) ∧ (Kd.R (Kd.int .i64) 3 w' w.heap.size (fun _ => True) s_.1 t195) ∧ (w'.heap[gb188]? = some (.cells #[.int .i64 a0_0, .slice A0_1 l0_1.length c0_1] 52 (0, 0))) ∧ (w'.heap[gb189]? = some (.cells #[.slice A2_0 l2_0.length c2_0] 29 (0, 0))) ∧ (w'.heap[gb190]? = some (.cells #[.int .i64 a3_0, .int .i64 a3_1] 32 (0, 0))) ∧ (w'.heap[gb191]? = some (.cells #[.int .i64 0, .slice none 0 0] 52 (0, 0))) ∧ (w'.heap[gb192]? = some (.cells #[.slice none 0 0] 29 (0, 0))) ∧ (w'.heap[gb193]? = some (.cells #[.int .i64 0, .int .i64 0, .int .i64 0, .int .i64 0] 60 (0, 0))) ∧ (w'.heap[s_.2]? = some (.cells #[.slice none 0 0] 29 (0, 0))) ∧ (w.heap.size ≤ s_.2) ∧ (w.heap.size ≤ s_.2) ∧ (gb188 ≠ s_.2) ∧ (s_.2 ≠ gb188) ∧ (gb189 ≠ s_.2) ∧ (s_.2 ≠ gb189) ∧ (gb190 ≠ s_.2) ∧ (s_.2 ≠ gb190) ∧ (gb191 ≠ s_.2) ∧ (s_.2 ≠ gb191) ∧ (gb192 ≠ s_.2) ∧ (s_.2 ≠ gb192) ∧ (gb193 ≠ s_.2) ∧ (s_.2 ≠ gb193) ∧ (Below w.heap.size w w')) ?_ ?_
       rotate_left
       ·intro hJ1_5
        refine join_ (σ := Nat × Nat) 4 #[true, false, true, false, true, true, false, false] (fun s_ => [(13, .pointer (some ⟨s_.1, 0, none⟩)), (14, .pointer (some ⟨s_.2, 0, none⟩))]) (fun s_ w' => (w'.cell? ⟨gb188, 0, none⟩ = some (.int .i64 a0_0) ∧ w'.cell? ⟨gb188, 1, none⟩ = some (.slice A0_1 l0_1.length c0_1) ∧ w'.cell? ⟨gb189, 0, none⟩ = some (.slice A2_0 l2_0.length c2_0)) ∧ (w'.heap[gb188]? = some (.cells #[.int .i64 a0_0, .slice A0_1 l0_1.length c0_1] 52 (0, 0))) ∧ (w'.heap[gb189]? = some (.cells #[.slice A2_0 l2_0.length c2_0] 29 (0, 0))) ∧ (w'.heap[gb190]? = some (.cells #[.int .i64 a3_0, .int .i64 a3_1] 32 (0, 0))) ∧ (w'.heap[gb191]? = some (.cells #[.int .i64 0, .slice none 0 0] 52 (0, 0))) ∧ (w'.heap[gb192]? = some (.cells #[.slice none 0 0] 29 (0, 0))) ∧ (w'.heap[gb193]? = some (.cells #[.int .i64 0, .int .i64 0, .int .i64 0, .int .i64 0] 60 (0, 0))) ∧ (w'.heap[s_.1]? = some (.cells #[.int .i64 0, .slice none 0 0] 52 (0, 0))) ∧ (w'.heap[s_.2]? = some (.cells #[.slice none 0 0] 29 (0, 0))) ∧ (w.heap.size ≤ s_.1) ∧ (w.heap.size ≤ s_.1) ∧ (gb188 ≠ s_.1) ∧ (s_.1 ≠ gb188) ∧ (gb189 ≠ s_.1) ∧ (s_.1 ≠ gb189) ∧ (gb190 ≠ s_.1) ∧ (s_.1 ≠ gb190) ∧ (gb191 ≠ s_.1) ∧ (s_.1 ≠ gb191) ∧ (gb192 ≠ s_.1) ∧ (s_.1 ≠ gb192) ∧ (gb193 ≠ s_.1) ∧ (s_.1 ≠ gb193) ∧ (s_.2 ≠ s_.1) ∧ (s_.1 ≠ s_.2) ∧ (w.heap.size ≤ s_.2) ∧ (w.heap.size ≤ s_.2) ∧ (gb188 ≠ s_.2) ∧ (s_.2 ≠ gb188) ∧ (gb189 ≠ s_.2) ∧ (s_.2 ≠ gb189) ∧ (gb190 ≠ s_.2) ∧ (s_.2 ≠ gb190) ∧ (gb191 ≠ s_.2) ∧ (s_.2 ≠ gb191) ∧ (gb192 ≠ s_.2) ∧ (s_.2 ≠ gb192) ∧ (gb193 ≠ s_.2) ∧ (s_.2 ≠ gb193) ∧ (Below w.heap.size w w')) ?_ ?_
        rotate_left
        ·intro hJ4_5
         refine join_ (σ := Value) 5 #[true, true, true, false, false, false, false, false] (fun s_ => [(20, .agg #[.int .i64 t194, s_])]) (fun s_ w' => (w'.cell? ⟨gb188, 0, none⟩ = some (.int .i64 a0_0) ∧ w'.cell? ⟨gb188, 1, none⟩ = some (.slice A0_1 l0_1.length c0_1) ∧ w'.cell? ⟨gb189, 0, none⟩ = some (.slice A2_0 l2_0.length c2_0)) ∧ (Kd.R (Kd.int .i64) 3 w' w.heap.size (fun _ => True) s_ t195) ∧ (w'.heap[gb188]? = some (.cells #[.int .i64 a0_0, .slice A0_1 l0_1.length c0_1] 52 (0, 0))) ∧ (w'.heap[gb189]? = some (.cells #[.slice A2_0 l2_0.length c2_0] 29 (0, 0))) ∧ (w'.heap[gb190]? = some (.cells #[.int .i64 a3_0, .int .i64 a3_1] 32 (0, 0))) ∧ (w'.heap[gb191]? = some (.cells #[.int .i64 0, .slice none 0 0] 52 (0, 0))) ∧ (w'.heap[gb192]? = some (.cells #[.slice none 0 0] 29 (0, 0))) ∧ (w'.heap[gb193]? = some (.cells #[.int .i64 0, .int .i64 0, .int .i64 0, .int .i64 0] 60 (0, 0))) ∧ (Below w.heap.size w w')) ?_ ?_
         rotate_left
         ·intro hJ1
          refine join_ (σ := Nat) 5 #[true, false, true, false, true, false, false, false] (fun s_ => [(13, .pointer (some ⟨s_, 0, none⟩))]) (fun s_ w' => (w'.cell? ⟨gb188, 0, none⟩ = some (.int .i64 a0_0) ∧ w'.cell? ⟨gb188, 1, none⟩ = some (.slice A0_1 l0_1.length c0_1) ∧ w'.cell? ⟨gb189, 0, none⟩ = some (.slice A2_0 l2_0.length c2_0)) ∧ (w'.heap[gb188]? = some (.cells #[.int .i64 a0_0, .slice A0_1 l0_1.length c0_1] 52 (0, 0))) ∧ (w'.heap[gb189]? = some (.cells #[.slice A2_0 l2_0.length c2_0] 29 (0, 0))) ∧ (w'.heap[gb190]? = some (.cells #[.int .i64 a3_0, .int .i64 a3_1] 32 (0, 0))) ∧ (w'.heap[gb191]? = some (.cells #[.int .i64 0, .slice none 0 0] 52 (0, 0))) ∧ (w'.heap[gb192]? = some (.cells #[.slice none 0 0] 29 (0, 0))) ∧ (w'.heap[gb193]? = some (.cells #[.int .i64 0, .int .i64 0, .int .i64 0, .int .i64 0] 60 (0, 0))) ∧ (w'.heap[s_]? = some (.cells #[.int .i64 0, .slice none 0 0] 52 (0, 0))) ∧ (w.heap.size ≤ s_) ∧ (w.heap.size ≤ s_) ∧ (gb188 ≠ s_) ∧ (s_ ≠ gb188) ∧ (gb189 ≠ s_) ∧ (s_ ≠ gb189) ∧ (gb190 ≠ s_) ∧ (s_ ≠ gb190) ∧ (gb191 ≠ s_) ∧ (s_ ≠ gb191) ∧ (gb192 ≠ s_) ∧ (s_ ≠ gb192) ∧ (gb193 ≠ s_) ∧ (s_ ≠ gb193) ∧ (Below w.heap.size w w')) ?_ ?_
          rotate_left
          ·intro hJ4
           refine join_ (σ := Nat) 5 #[true, false, true, false, false, true, false, false] (fun s_ => [(14, .pointer (some ⟨s_, 0, none⟩))]) (fun s_ w' => (w'.cell? ⟨gb188, 0, none⟩ = some (.int .i64 a0_0) ∧ w'.cell? ⟨gb188, 1, none⟩ = some (.slice A0_1 l0_1.length c0_1) ∧ w'.cell? ⟨gb189, 0, none⟩ = some (.slice A2_0 l2_0.length c2_0)) ∧ (w'.heap[gb188]? = some (.cells #[.int .i64 a0_0, .slice A0_1 l0_1.length c0_1] 52 (0, 0))) ∧ (w'.heap[gb189]? = some (.cells #[.slice A2_0 l2_0.length c2_0] 29 (0, 0))) ∧ (w'.heap[gb190]? = some (.cells #[.int .i64 a3_0, .int .i64 a3_1] 32 (0, 0))) ∧ (w'.heap[gb191]? = some (.cells #[.int .i64 0, .slice none 0 0] 52 (0, 0))) ∧ (w'.heap[gb192]? = some (.cells #[.slice none 0 0] 29 (0, 0))) ∧ (w'.heap[gb193]? = some (.cells #[.int .i64 0, .int .i64 0, .int .i64 0, .int .i64 0] 60 (0, 0))) ∧ (w'.heap[s_]? = some (.cells #[.slice none 0 0] 29 (0, 0))) ∧ (w.heap.size ≤ s_) ∧ (w.heap.size ≤ s_) ∧ (gb188 ≠ s_) ∧ (s_ ≠ gb188) ∧ (gb189 ≠ s_) ∧ (s_ ≠ gb189) ∧ (gb190 ≠ s_) ∧ (s_ ≠ gb190) ∧ (gb191 ≠ s_) ∧ (s_ ≠ gb191) ∧ (gb192 ≠ s_) ∧ (s_ ≠ gb192) ∧ (gb193 ≠ s_) ∧ (s_ ≠ gb193) ∧ (Below w.heap.size w w')) ?_ ?_
           rotate_left
           ·intro hJ5
            refine three_ (i := 1) (j := 4) (k := 5) (Ni := some 20) (Nj := some 13) (Nk := some 14) #[true, true, true, false, false, false, false, false] #[true, false, true, false, true, false, false, false] #[true, false, true, false, false, true, false, false] rfl rfl rfl rfl rfl rfl (three_of HT_.out (by kernel_rfl)) (by decide) (by decide) (by decide) (fun K hK => ?_) (fun K hK => ?_) (fun K hK => ?_)
            ·skip
             refine goes_ Try.func69 (by kernel_rfl) rfl #[.agg #[.int .i64 a0_0, .slice A0_1 l0_1.length c0_1]] (by rfl) rfl rfl (by (try simp only [List.map_toArray, List.map_cons, List.map_nil]); first | done | rfl | (simp only [List.length_drop, List.length_take]; rfl)) ?_
             with_reducible refine (impl_copyCpu.calls a0_0 _ _ l0_1 t194 t195 _ ?side1 ?side2 A6.out).mono ?_
             (case side1 => repeat (first | exact (Kd.C_below HR0_1.out HB.out) | (with_reducible refine Kd.C_alloc ?_ _) | (with_reducible refine Kd.C_drewN ?_ _) | (with_reducible refine Kd.C_drew ?_)))
             (case side2 => exact HC0_1.out)
             rintro e w517 ⟨v196, rfl, ho0, hb⟩
             refine ⟨_, rfl, ?_⟩
             have n0_ := yaM (Kd.R_lower ho0 (ybZ (by repeat (first | (with_reducible first | exact HB.out | apply ybA | apply ybN | apply ybD | refine ybS ?_ GE191.out | refine ybS ?_ GE192.out | refine ybS ?_ GE193.out) | exact HB.out))))
             have n1_ := yaM (ykB (g := gb188) (o := .cells #[.int .i64 a0_0, .slice A0_1 l0_1.length c0_1] 52 (0, 0)) BK188.out hb)
             have n2_ := yaM (ykB (g := gb189) (o := .cells #[.slice A2_0 l2_0.length c2_0] 29 (0, 0)) BK189.out hb)
             have n3_ := yaM (ykB (g := gb190) (o := .cells #[.int .i64 a3_0, .int .i64 a3_1] 32 (0, 0)) BK190.out hb)
             have n4_ := yaM (ykB (g := gb191) (o := .cells #[.int .i64 0, .slice none 0 0] 52 (0, 0)) BK191.out hb)
             have n5_ := yaM (ykB (g := gb192) (o := .cells #[.slice none 0 0] 29 (0, 0)) BK192.out hb)
             have n6_ := yaM (ykB (g := gb193) (o := .cells #[.int .i64 0, .int .i64 0, .int .i64 0, .int .i64 0] 60 (0, 0)) BK193.out hb)
             have n7_ := yaM (ybT (by repeat (first | (with_reducible first | exact HB.out | apply ybA | apply ybN | apply ybD | refine ybS ?_ GE191.out | refine ybS ?_ GE192.out | refine ybS ?_ GE193.out) | exact HB.out)) hb)
             clear BK188
             clear BK189
             clear BK190
             clear BK191
             clear BK192
             clear BK193
             clear HB
             have HO197 := n0_
             have BK188 := n1_
             have BK189 := n2_
             have BK190 := n3_
             have BK191 := n4_
             have BK192 := n5_
             have BK193 := n6_
             have HB := n7_
             clear n0_ n1_ n2_ n3_ n4_ n5_ n6_ n7_
             (try clear hb)
             (try clear hb2)
             (try clear hk)
             (try clear hi)
             (try clear ho0)
             refine hK.out _ _ ⟨(ykC BK188.out 0).trans rfl, (ykC BK188.out 1).trans rfl, (ykC BK189.out 0).trans rfl⟩ (fun hHeld => ?_)
             clear hK K
             refine norm_ (a' := ?_) ?_ ?_
             rotate_left
             ·show Act.put _ (some 20) _ = _
              simp only [Act.put, ylA, ylZ, ylS, i64_w, i32_w]
              rfl
             exact norm_ (by first | (simp only [putAll, Act.put, ylA, ylZ, ylS]; done) | (simp only [putAll, Act.put, ylA, ylZ, ylS]; rfl)) (hJ1 (v196) _ ⟨hHeld, HO197.out, BK188.out, BK189.out, BK190.out, BK191.out, BK192.out, BK193.out, (by repeat (first | (with_reducible first | exact HB.out | apply ybA | apply ybN | apply ybD | refine ybS ?_ GE191.out | refine ybS ?_ GE192.out | refine ybS ?_ GE193.out) | exact HB.out))⟩)
            ·skip
             refine box_step ?hg (N := 13) ?hd (cs := #[.int .i64 0, .slice none 0 0]) (t := 52) ?hr ?_; (case hd => rfl); (case hg => rfl); (case hr => first | (go_simp; done) | (go_simp; rfl))
             intro gb201 hg w517 hbox hb
             have n0_ := yaM (ykB (g := gb188) (o := .cells #[.int .i64 a0_0, .slice A0_1 l0_1.length c0_1] 52 (0, 0)) BK188.out hb)
             have n1_ := yaM (ykB (g := gb189) (o := .cells #[.slice A2_0 l2_0.length c2_0] 29 (0, 0)) BK189.out hb)
             have n2_ := yaM (ykB (g := gb190) (o := .cells #[.int .i64 a3_0, .int .i64 a3_1] 32 (0, 0)) BK190.out hb)
             have n3_ := yaM (ykB (g := gb191) (o := .cells #[.int .i64 0, .slice none 0 0] 52 (0, 0)) BK191.out hb)
             have n4_ := yaM (ykB (g := gb192) (o := .cells #[.slice none 0 0] 29 (0, 0)) BK192.out hb)
             have n5_ := yaM (ykB (g := gb193) (o := .cells #[.int .i64 0, .int .i64 0, .int .i64 0, .int .i64 0] 60 (0, 0)) BK193.out hb)
             have n6_ := yaM (ybT (by repeat (first | (with_reducible first | exact HB.out | apply ybA | apply ybN | apply ybD | refine ybS ?_ GE191.out | refine ybS ?_ GE192.out | refine ybS ?_ GE193.out) | exact HB.out)) hb)
             have n7_ := yaM (hbox)
             have n8_ := yaM ((by rw [hg]; exact (ybZ (by repeat (first | (with_reducible first | exact HB.out | apply ybA | apply ybN | apply ybD | refine ybS ?_ GE191.out | refine ybS ?_ GE192.out | refine ybS ?_ GE193.out) | exact HB.out))) : w.heap.size ≤ gb201))
             have n9_ := yaM ((by rw [hg]; exact (ybZ (by repeat (first | (with_reducible first | exact HB.out | apply ybA | apply ybN | apply ybD | refine ybS ?_ GE191.out | refine ybS ?_ GE192.out | refine ybS ?_ GE193.out) | exact HB.out))) : w.heap.size ≤ gb201))
             have n10_ := yaM ((by rw [hg]; exact Nat.ne_of_lt (ykL (g := gb188) (o := .cells #[.int .i64 a0_0, .slice A0_1 l0_1.length c0_1] 52 (0, 0)) BK188.out) : gb188 ≠ gb201))
             have n11_ := yaM ((by rw [hg]; exact Nat.ne_of_gt (ykL (g := gb188) (o := .cells #[.int .i64 a0_0, .slice A0_1 l0_1.length c0_1] 52 (0, 0)) BK188.out) : gb201 ≠ gb188))
             have n12_ := yaM ((by rw [hg]; exact Nat.ne_of_lt (ykL (g := gb189) (o := .cells #[.slice A2_0 l2_0.length c2_0] 29 (0, 0)) BK189.out) : gb189 ≠ gb201))
             have n13_ := yaM ((by rw [hg]; exact Nat.ne_of_gt (ykL (g := gb189) (o := .cells #[.slice A2_0 l2_0.length c2_0] 29 (0, 0)) BK189.out) : gb201 ≠ gb189))
             have n14_ := yaM ((by rw [hg]; exact Nat.ne_of_lt (ykL (g := gb190) (o := .cells #[.int .i64 a3_0, .int .i64 a3_1] 32 (0, 0)) BK190.out) : gb190 ≠ gb201))
             have n15_ := yaM ((by rw [hg]; exact Nat.ne_of_gt (ykL (g := gb190) (o := .cells #[.int .i64 a3_0, .int .i64 a3_1] 32 (0, 0)) BK190.out) : gb201 ≠ gb190))
             have n16_ := yaM ((by rw [hg]; exact Nat.ne_of_lt (ykL (g := gb191) (o := .cells #[.int .i64 0, .slice none 0 0] 52 (0, 0)) BK191.out) : gb191 ≠ gb201))
             have n17_ := yaM ((by rw [hg]; exact Nat.ne_of_gt (ykL (g := gb191) (o := .cells #[.int .i64 0, .slice none 0 0] 52 (0, 0)) BK191.out) : gb201 ≠ gb191))
             have n18_ := yaM ((by rw [hg]; exact Nat.ne_of_lt (ykL (g := gb192) (o := .cells #[.slice none 0 0] 29 (0, 0)) BK192.out) : gb192 ≠ gb201))
             have n19_ := yaM ((by rw [hg]; exact Nat.ne_of_gt (ykL (g := gb192) (o := .cells #[.slice none 0 0] 29 (0, 0)) BK192.out) : gb201 ≠ gb192))
             have n20_ := yaM ((by rw [hg]; exact Nat.ne_of_lt (ykL (g := gb193) (o := .cells #[.int .i64 0, .int .i64 0, .int .i64 0, .int .i64 0] 60 (0, 0)) BK193.out) : gb193 ≠ gb201))
             have n21_ := yaM ((by rw [hg]; exact Nat.ne_of_gt (ykL (g := gb193) (o := .cells #[.int .i64 0, .int .i64 0, .int .i64 0, .int .i64 0] 60 (0, 0)) BK193.out) : gb201 ≠ gb193))
             clear BK188
             clear BK189
             clear BK190
             clear BK191
             clear BK192
             clear BK193
             clear HB
             have BK188 := n0_
             have BK189 := n1_
             have BK190 := n2_
             have BK191 := n3_
             have BK192 := n4_
             have BK193 := n5_
             have HB := n6_
             have BK201 := n7_
             have GW201 := n8_
             have GE201 := n9_
             have NB188_201 := n10_
             have NB201_188 := n11_
             have NB189_201 := n12_
             have NB201_189 := n13_
             have NB190_201 := n14_
             have NB201_190 := n15_
             have NB191_201 := n16_
             have NB201_191 := n17_
             have NB192_201 := n18_
             have NB201_192 := n19_
             have NB193_201 := n20_
             have NB201_193 := n21_
             clear n0_ n1_ n2_ n3_ n4_ n5_ n6_ n7_ n8_ n9_ n10_ n11_ n12_ n13_ n14_ n15_ n16_ n17_ n18_ n19_ n20_ n21_
             clear hb hbox hg
             refine hK.out _ _ ⟨(ykC BK188.out 0).trans rfl, (ykC BK188.out 1).trans rfl, (ykC BK189.out 0).trans rfl⟩ (fun hHeld => ?_)
             clear hK K
             refine norm_ (a' := ?_) ?_ ?_
             rotate_left
             ·show Act.put _ (some 13) _ = _
              simp only [Act.put, ylA, ylZ, ylS, i64_w, i32_w]
              rfl
             exact norm_ (by first | (simp only [putAll, Act.put, ylA, ylZ, ylS]; done) | (simp only [putAll, Act.put, ylA, ylZ, ylS]; rfl)) (hJ4 (gb201) _ ⟨hHeld, BK188.out, BK189.out, BK190.out, BK191.out, BK192.out, BK193.out, BK201.out, GW201.out, GE201.out, NB188_201.out, NB201_188.out, NB189_201.out, NB201_189.out, NB190_201.out, NB201_190.out, NB191_201.out, NB201_191.out, NB192_201.out, NB201_192.out, NB193_201.out, NB201_193.out, (by repeat (first | (with_reducible first | exact HB.out | apply ybA | apply ybN | apply ybD | refine ybS ?_ GE191.out | refine ybS ?_ GE192.out | refine ybS ?_ GE193.out | refine ybS ?_ GE201.out) | exact HB.out))⟩)
            ·skip
             refine box_step ?hg (N := 14) ?hd (cs := #[.slice none 0 0]) (t := 29) ?hr ?_; (case hd => rfl); (case hg => rfl); (case hr => first | (go_simp; done) | (go_simp; rfl))
             intro gb202 hg w517 hbox hb
             have n0_ := yaM (ykB (g := gb188) (o := .cells #[.int .i64 a0_0, .slice A0_1 l0_1.length c0_1] 52 (0, 0)) BK188.out hb)
             have n1_ := yaM (ykB (g := gb189) (o := .cells #[.slice A2_0 l2_0.length c2_0] 29 (0, 0)) BK189.out hb)
             have n2_ := yaM (ykB (g := gb190) (o := .cells #[.int .i64 a3_0, .int .i64 a3_1] 32 (0, 0)) BK190.out hb)
             have n3_ := yaM (ykB (g := gb191) (o := .cells #[.int .i64 0, .slice none 0 0] 52 (0, 0)) BK191.out hb)
             have n4_ := yaM (ykB (g := gb192) (o := .cells #[.slice none 0 0] 29 (0, 0)) BK192.out hb)
             have n5_ := yaM (ykB (g := gb193) (o := .cells #[.int .i64 0, .int .i64 0, .int .i64 0, .int .i64 0] 60 (0, 0)) BK193.out hb)
             have n6_ := yaM (ybT (by repeat (first | (with_reducible first | exact HB.out | apply ybA | apply ybN | apply ybD | refine ybS ?_ GE191.out | refine ybS ?_ GE192.out | refine ybS ?_ GE193.out) | exact HB.out)) hb)
             have n7_ := yaM (hbox)
             have n8_ := yaM ((by rw [hg]; exact (ybZ (by repeat (first | (with_reducible first | exact HB.out | apply ybA | apply ybN | apply ybD | refine ybS ?_ GE191.out | refine ybS ?_ GE192.out | refine ybS ?_ GE193.out) | exact HB.out))) : w.heap.size ≤ gb202))
             have n9_ := yaM ((by rw [hg]; exact (ybZ (by repeat (first | (with_reducible first | exact HB.out | apply ybA | apply ybN | apply ybD | refine ybS ?_ GE191.out | refine ybS ?_ GE192.out | refine ybS ?_ GE193.out) | exact HB.out))) : w.heap.size ≤ gb202))
             have n10_ := yaM ((by rw [hg]; exact Nat.ne_of_lt (ykL (g := gb188) (o := .cells #[.int .i64 a0_0, .slice A0_1 l0_1.length c0_1] 52 (0, 0)) BK188.out) : gb188 ≠ gb202))
             have n11_ := yaM ((by rw [hg]; exact Nat.ne_of_gt (ykL (g := gb188) (o := .cells #[.int .i64 a0_0, .slice A0_1 l0_1.length c0_1] 52 (0, 0)) BK188.out) : gb202 ≠ gb188))
             have n12_ := yaM ((by rw [hg]; exact Nat.ne_of_lt (ykL (g := gb189) (o := .cells #[.slice A2_0 l2_0.length c2_0] 29 (0, 0)) BK189.out) : gb189 ≠ gb202))
             have n13_ := yaM ((by rw [hg]; exact Nat.ne_of_gt (ykL (g := gb189) (o := .cells #[.slice A2_0 l2_0.length c2_0] 29 (0, 0)) BK189.out) : gb202 ≠ gb189))
             have n14_ := yaM ((by rw [hg]; exact Nat.ne_of_lt (ykL (g := gb190) (o := .cells #[.int .i64 a3_0, .int .i64 a3_1] 32 (0, 0)) BK190.out) : gb190 ≠ gb202))
             have n15_ := yaM ((by rw [hg]; exact Nat.ne_of_gt (ykL (g := gb190) (o := .cells #[.int .i64 a3_0, .int .i64 a3_1] 32 (0, 0)) BK190.out) : gb202 ≠ gb190))
             have n16_ := yaM ((by rw [hg]; exact Nat.ne_of_lt (ykL (g := gb191) (o := .cells #[.int .i64 0, .slice none 0 0] 52 (0, 0)) BK191.out) : gb191 ≠ gb202))
             have n17_ := yaM ((by rw [hg]; exact Nat.ne_of_gt (ykL (g := gb191) (o := .cells #[.int .i64 0, .slice none 0 0] 52 (0, 0)) BK191.out) : gb202 ≠ gb191))
             have n18_ := yaM ((by rw [hg]; exact Nat.ne_of_lt (ykL (g := gb192) (o := .cells #[.slice none 0 0] 29 (0, 0)) BK192.out) : gb192 ≠ gb202))
             have n19_ := yaM ((by rw [hg]; exact Nat.ne_of_gt (ykL (g := gb192) (o := .cells #[.slice none 0 0] 29 (0, 0)) BK192.out) : gb202 ≠ gb192))
             have n20_ := yaM ((by rw [hg]; exact Nat.ne_of_lt (ykL (g := gb193) (o := .cells #[.int .i64 0, .int .i64 0, .int .i64 0, .int .i64 0] 60 (0, 0)) BK193.out) : gb193 ≠ gb202))
             have n21_ := yaM ((by rw [hg]; exact Nat.ne_of_gt (ykL (g := gb193) (o := .cells #[.int .i64 0, .int .i64 0, .int .i64 0, .int .i64 0] 60 (0, 0)) BK193.out) : gb202 ≠ gb193))
             clear BK188
             clear BK189
             clear BK190
             clear BK191
             clear BK192
             clear BK193
             clear HB
             have BK188 := n0_
             have BK189 := n1_
             have BK190 := n2_
             have BK191 := n3_
             have BK192 := n4_
             have BK193 := n5_
             have HB := n6_
             have BK202 := n7_
             have GW202 := n8_
             have GE202 := n9_
             have NB188_202 := n10_
             have NB202_188 := n11_
             have NB189_202 := n12_
             have NB202_189 := n13_
             have NB190_202 := n14_
             have NB202_190 := n15_
             have NB191_202 := n16_
             have NB202_191 := n17_
             have NB192_202 := n18_
             have NB202_192 := n19_
             have NB193_202 := n20_
             have NB202_193 := n21_
             clear n0_ n1_ n2_ n3_ n4_ n5_ n6_ n7_ n8_ n9_ n10_ n11_ n12_ n13_ n14_ n15_ n16_ n17_ n18_ n19_ n20_ n21_
             clear hb hbox hg
             refine hK.out _ _ ⟨(ykC BK188.out 0).trans rfl, (ykC BK188.out 1).trans rfl, (ykC BK189.out 0).trans rfl⟩ (fun hHeld => ?_)
             clear hK K
             refine norm_ (a' := ?_) ?_ ?_
             rotate_left
             ·show Act.put _ (some 14) _ = _
              simp only [Act.put, ylA, ylZ, ylS, i64_w, i32_w]
              rfl
             exact norm_ (by first | (simp only [putAll, Act.put, ylA, ylZ, ylS]; done) | (simp only [putAll, Act.put, ylA, ylZ, ylS]; rfl)) (hJ5 (gb202) _ ⟨hHeld, BK188.out, BK189.out, BK190.out, BK191.out, BK192.out, BK193.out, BK202.out, GW202.out, GE202.out, NB188_202.out, NB202_188.out, NB189_202.out, NB202_189.out, NB190_202.out, NB202_190.out, NB191_202.out, NB202_191.out, NB192_202.out, NB202_192.out, NB193_202.out, NB202_193.out, (by repeat (first | (with_reducible first | exact HB.out | apply ybA | apply ybN | apply ybD | refine ybS ?_ GE191.out | refine ybS ?_ GE192.out | refine ybS ?_ GE193.out | refine ybS ?_ GE202.out) | exact HB.out))⟩)
           ·skip
            rintro gb202 w518 ⟨hS_, h0_, h1_, h2_, h3_, h4_, h5_, h6_, h7_, h8_, h9_, h10_, h11_, h12_, h13_, h14_, h15_, h16_, h17_, h18_, h19_, h20_, h21_⟩
            have n0_ : Aside0 (w518.heap[gb188]? = some (.cells #[.int .i64 a0_0, .slice A0_1 l0_1.length c0_1] 52 (0, 0))) := ⟨h0_⟩
            have n1_ : Aside0 (w518.heap[gb189]? = some (.cells #[.slice A2_0 l2_0.length c2_0] 29 (0, 0))) := ⟨h1_⟩
            have n2_ : Aside0 (w518.heap[gb190]? = some (.cells #[.int .i64 a3_0, .int .i64 a3_1] 32 (0, 0))) := ⟨h2_⟩
            have n3_ : Aside0 (w518.heap[gb191]? = some (.cells #[.int .i64 0, .slice none 0 0] 52 (0, 0))) := ⟨h3_⟩
            have n4_ : Aside0 (w518.heap[gb192]? = some (.cells #[.slice none 0 0] 29 (0, 0))) := ⟨h4_⟩
            have n5_ : Aside0 (w518.heap[gb193]? = some (.cells #[.int .i64 0, .int .i64 0, .int .i64 0, .int .i64 0] 60 (0, 0))) := ⟨h5_⟩
            have n6_ : Aside0 (w518.heap[gb202]? = some (.cells #[.slice none 0 0] 29 (0, 0))) := ⟨h6_⟩
            have n7_ : Aside0 (w.heap.size ≤ gb202) := ⟨h7_⟩
            have n8_ : Aside0 (w.heap.size ≤ gb202) := ⟨h8_⟩
            have n9_ : Aside0 (gb188 ≠ gb202) := ⟨h9_⟩
            have n10_ : Aside0 (gb202 ≠ gb188) := ⟨h10_⟩
            have n11_ : Aside0 (gb189 ≠ gb202) := ⟨h11_⟩
            have n12_ : Aside0 (gb202 ≠ gb189) := ⟨h12_⟩
            have n13_ : Aside0 (gb190 ≠ gb202) := ⟨h13_⟩
            have n14_ : Aside0 (gb202 ≠ gb190) := ⟨h14_⟩
            have n15_ : Aside0 (gb191 ≠ gb202) := ⟨h15_⟩
            have n16_ : Aside0 (gb202 ≠ gb191) := ⟨h16_⟩
            have n17_ : Aside0 (gb192 ≠ gb202) := ⟨h17_⟩
            have n18_ : Aside0 (gb202 ≠ gb192) := ⟨h18_⟩
            have n19_ : Aside0 (gb193 ≠ gb202) := ⟨h19_⟩
            have n20_ : Aside0 (gb202 ≠ gb193) := ⟨h20_⟩
            have n21_ : Aside0 (Below w.heap.size w w518) := ⟨h21_⟩
            clear BK188
            clear BK189
            clear BK190
            clear BK191
            clear BK192
            clear BK193
            clear HB
            clear h0_ h1_ h2_ h3_ h4_ h5_ h6_ h7_ h8_ h9_ h10_ h11_ h12_ h13_ h14_ h15_ h16_ h17_ h18_ h19_ h20_ h21_
            have BK188 := n0_
            have BK189 := n1_
            have BK190 := n2_
            have BK191 := n3_
            have BK192 := n4_
            have BK193 := n5_
            have BK202 := n6_
            have GW202 := n7_
            have GE202 := n8_
            have NB188_202 := n9_
            have NB202_188 := n10_
            have NB189_202 := n11_
            have NB202_189 := n12_
            have NB190_202 := n13_
            have NB202_190 := n14_
            have NB191_202 := n15_
            have NB202_191 := n16_
            have NB192_202 := n17_
            have NB202_192 := n18_
            have NB193_202 := n19_
            have NB202_193 := n20_
            have HB := n21_
            clear n0_ n1_ n2_ n3_ n4_ n5_ n6_ n7_ n8_ n9_ n10_ n11_ n12_ n13_ n14_ n15_ n16_ n17_ n18_ n19_ n20_ n21_
            have hHeld : w518.cell? ⟨gb188, 0, none⟩ = some (.int .i64 a0_0) ∧ w518.cell? ⟨gb188, 1, none⟩ = some (.slice A0_1 l0_1.length c0_1) ∧ w518.cell? ⟨gb189, 0, none⟩ = some (.slice A2_0 l2_0.length c2_0) := hS_
            refine norm_ (a' := ?_) ?_ ?_
            rotate_left
            ·simp only [putAll, Act.put, ylA, ylZ, ylS]
             rfl
            refine two_ (i := 1) (j := 4) (Ni := some 20) (Nj := some 13) #[true, true, true, false, false, true, false, false] #[true, false, true, false, true, true, false, false] rfl rfl rfl rfl (two_of HT_.out (by kernel_rfl)) (by decide) (by decide) (fun K hK => ?_) (fun K hK => ?_)
            ·skip
             refine goes_ Try.func69 (by kernel_rfl) rfl #[.agg #[.int .i64 a0_0, .slice A0_1 l0_1.length c0_1]] (by rfl) rfl rfl (by (try simp only [List.map_toArray, List.map_cons, List.map_nil]); first | done | rfl | (simp only [List.length_drop, List.length_take]; rfl)) ?_
             with_reducible refine (impl_copyCpu.calls a0_0 _ _ l0_1 t194 t195 _ ?side1 ?side2 A6.out).mono ?_
             (case side1 => repeat (first | exact (Kd.C_below HR0_1.out HB.out) | (with_reducible refine Kd.C_alloc ?_ _) | (with_reducible refine Kd.C_drewN ?_ _) | (with_reducible refine Kd.C_drew ?_)))
             (case side2 => exact HC0_1.out)
             rintro e w519 ⟨v196, rfl, ho0, hb⟩
             refine ⟨_, rfl, ?_⟩
             have n0_ := yaM (Kd.R_lower ho0 (ybZ (by repeat (first | (with_reducible first | exact HB.out | apply ybA | apply ybN | apply ybD | refine ybS ?_ GE191.out | refine ybS ?_ GE192.out | refine ybS ?_ GE193.out | refine ybS ?_ GE202.out) | exact HB.out))))
             have n1_ := yaM (ykB (g := gb188) (o := .cells #[.int .i64 a0_0, .slice A0_1 l0_1.length c0_1] 52 (0, 0)) BK188.out hb)
             have n2_ := yaM (ykB (g := gb189) (o := .cells #[.slice A2_0 l2_0.length c2_0] 29 (0, 0)) BK189.out hb)
             have n3_ := yaM (ykB (g := gb190) (o := .cells #[.int .i64 a3_0, .int .i64 a3_1] 32 (0, 0)) BK190.out hb)
             have n4_ := yaM (ykB (g := gb191) (o := .cells #[.int .i64 0, .slice none 0 0] 52 (0, 0)) BK191.out hb)
             have n5_ := yaM (ykB (g := gb192) (o := .cells #[.slice none 0 0] 29 (0, 0)) BK192.out hb)
             have n6_ := yaM (ykB (g := gb193) (o := .cells #[.int .i64 0, .int .i64 0, .int .i64 0, .int .i64 0] 60 (0, 0)) BK193.out hb)
             have n7_ := yaM (ykB (g := gb202) (o := .cells #[.slice none 0 0] 29 (0, 0)) BK202.out hb)
             have n8_ := yaM (ybT (by repeat (first | (with_reducible first | exact HB.out | apply ybA | apply ybN | apply ybD | refine ybS ?_ GE191.out | refine ybS ?_ GE192.out | refine ybS ?_ GE193.out | refine ybS ?_ GE202.out) | exact HB.out)) hb)
             clear BK188
             clear BK189
             clear BK190
             clear BK191
             clear BK192
             clear BK193
             clear BK202
             clear HB
             have HO197 := n0_
             have BK188 := n1_
             have BK189 := n2_
             have BK190 := n3_
             have BK191 := n4_
             have BK192 := n5_
             have BK193 := n6_
             have BK202 := n7_
             have HB := n8_
             clear n0_ n1_ n2_ n3_ n4_ n5_ n6_ n7_ n8_
             (try clear hb)
             (try clear hb2)
             (try clear hk)
             (try clear hi)
             (try clear ho0)
             refine hK.out _ _ ⟨(ykC BK188.out 0).trans rfl, (ykC BK188.out 1).trans rfl, (ykC BK189.out 0).trans rfl⟩ (fun hHeld => ?_)
             clear hK K
             refine norm_ (a' := ?_) ?_ ?_
             rotate_left
             ·show Act.put _ (some 20) _ = _
              simp only [Act.put, ylA, ylZ, ylS, i64_w, i32_w]
              rfl
             exact norm_ (by first | (simp only [putAll, Act.put, ylA, ylZ, ylS]; done) | (simp only [putAll, Act.put, ylA, ylZ, ylS]; rfl)) (hJ1_5 (v196, gb202) _ ⟨hHeld, HO197.out, BK188.out, BK189.out, BK190.out, BK191.out, BK192.out, BK193.out, BK202.out, GW202.out, GE202.out, NB188_202.out, NB202_188.out, NB189_202.out, NB202_189.out, NB190_202.out, NB202_190.out, NB191_202.out, NB202_191.out, NB192_202.out, NB202_192.out, NB193_202.out, NB202_193.out, (by repeat (first | (with_reducible first | exact HB.out | apply ybA | apply ybN | apply ybD | refine ybS ?_ GE191.out | refine ybS ?_ GE192.out | refine ybS ?_ GE193.out | refine ybS ?_ GE202.out) | exact HB.out))⟩)
            ·skip
             refine box_step ?hg (N := 13) ?hd (cs := #[.int .i64 0, .slice none 0 0]) (t := 52) ?hr ?_; (case hd => rfl); (case hg => rfl); (case hr => first | (go_simp; done) | (go_simp; rfl))
             intro gb201 hg w519 hbox hb
             have n0_ := yaM (ykB (g := gb188) (o := .cells #[.int .i64 a0_0, .slice A0_1 l0_1.length c0_1] 52 (0, 0)) BK188.out hb)
             have n1_ := yaM (ykB (g := gb189) (o := .cells #[.slice A2_0 l2_0.length c2_0] 29 (0, 0)) BK189.out hb)
             have n2_ := yaM (ykB (g := gb190) (o := .cells #[.int .i64 a3_0, .int .i64 a3_1] 32 (0, 0)) BK190.out hb)
             have n3_ := yaM (ykB (g := gb191) (o := .cells #[.int .i64 0, .slice none 0 0] 52 (0, 0)) BK191.out hb)
             have n4_ := yaM (ykB (g := gb192) (o := .cells #[.slice none 0 0] 29 (0, 0)) BK192.out hb)
             have n5_ := yaM (ykB (g := gb193) (o := .cells #[.int .i64 0, .int .i64 0, .int .i64 0, .int .i64 0] 60 (0, 0)) BK193.out hb)
             have n6_ := yaM (ykB (g := gb202) (o := .cells #[.slice none 0 0] 29 (0, 0)) BK202.out hb)
             have n7_ := yaM (ybT (by repeat (first | (with_reducible first | exact HB.out | apply ybA | apply ybN | apply ybD | refine ybS ?_ GE191.out | refine ybS ?_ GE192.out | refine ybS ?_ GE193.out | refine ybS ?_ GE202.out) | exact HB.out)) hb)
             have n8_ := yaM (hbox)
             have n9_ := yaM ((by rw [hg]; exact (ybZ (by repeat (first | (with_reducible first | exact HB.out | apply ybA | apply ybN | apply ybD | refine ybS ?_ GE191.out | refine ybS ?_ GE192.out | refine ybS ?_ GE193.out | refine ybS ?_ GE202.out) | exact HB.out))) : w.heap.size ≤ gb201))
             have n10_ := yaM ((by rw [hg]; exact (ybZ (by repeat (first | (with_reducible first | exact HB.out | apply ybA | apply ybN | apply ybD | refine ybS ?_ GE191.out | refine ybS ?_ GE192.out | refine ybS ?_ GE193.out | refine ybS ?_ GE202.out) | exact HB.out))) : w.heap.size ≤ gb201))
             have n11_ := yaM ((by rw [hg]; exact Nat.ne_of_lt (ykL (g := gb188) (o := .cells #[.int .i64 a0_0, .slice A0_1 l0_1.length c0_1] 52 (0, 0)) BK188.out) : gb188 ≠ gb201))
             have n12_ := yaM ((by rw [hg]; exact Nat.ne_of_gt (ykL (g := gb188) (o := .cells #[.int .i64 a0_0, .slice A0_1 l0_1.length c0_1] 52 (0, 0)) BK188.out) : gb201 ≠ gb188))
             have n13_ := yaM ((by rw [hg]; exact Nat.ne_of_lt (ykL (g := gb189) (o := .cells #[.slice A2_0 l2_0.length c2_0] 29 (0, 0)) BK189.out) : gb189 ≠ gb201))
             have n14_ := yaM ((by rw [hg]; exact Nat.ne_of_gt (ykL (g := gb189) (o := .cells #[.slice A2_0 l2_0.length c2_0] 29 (0, 0)) BK189.out) : gb201 ≠ gb189))
             have n15_ := yaM ((by rw [hg]; exact Nat.ne_of_lt (ykL (g := gb190) (o := .cells #[.int .i64 a3_0, .int .i64 a3_1] 32 (0, 0)) BK190.out) : gb190 ≠ gb201))
             have n16_ := yaM ((by rw [hg]; exact Nat.ne_of_gt (ykL (g := gb190) (o := .cells #[.int .i64 a3_0, .int .i64 a3_1] 32 (0, 0)) BK190.out) : gb201 ≠ gb190))
             have n17_ := yaM ((by rw [hg]; exact Nat.ne_of_lt (ykL (g := gb191) (o := .cells #[.int .i64 0, .slice none 0 0] 52 (0, 0)) BK191.out) : gb191 ≠ gb201))
             have n18_ := yaM ((by rw [hg]; exact Nat.ne_of_gt (ykL (g := gb191) (o := .cells #[.int .i64 0, .slice none 0 0] 52 (0, 0)) BK191.out) : gb201 ≠ gb191))
             have n19_ := yaM ((by rw [hg]; exact Nat.ne_of_lt (ykL (g := gb192) (o := .cells #[.slice none 0 0] 29 (0, 0)) BK192.out) : gb192 ≠ gb201))
             have n20_ := yaM ((by rw [hg]; exact Nat.ne_of_gt (ykL (g := gb192) (o := .cells #[.slice none 0 0] 29 (0, 0)) BK192.out) : gb201 ≠ gb192))
             have n21_ := yaM ((by rw [hg]; exact Nat.ne_of_lt (ykL (g := gb193) (o := .cells #[.int .i64 0, .int .i64 0, .int .i64 0, .int .i64 0] 60 (0, 0)) BK193.out) : gb193 ≠ gb201))
             have n22_ := yaM ((by rw [hg]; exact Nat.ne_of_gt (ykL (g := gb193) (o := .cells #[.int .i64 0, .int .i64 0, .int .i64 0, .int .i64 0] 60 (0, 0)) BK193.out) : gb201 ≠ gb193))
             have n23_ := yaM ((by rw [hg]; exact Nat.ne_of_lt (ykL (g := gb202) (o := .cells #[.slice none 0 0] 29 (0, 0)) BK202.out) : gb202 ≠ gb201))
             have n24_ := yaM ((by rw [hg]; exact Nat.ne_of_gt (ykL (g := gb202) (o := .cells #[.slice none 0 0] 29 (0, 0)) BK202.out) : gb201 ≠ gb202))
             clear BK188
             clear BK189
             clear BK190
             clear BK191
             clear BK192
             clear BK193
             clear BK202
             clear HB
             have BK188 := n0_
             have BK189 := n1_
             have BK190 := n2_
             have BK191 := n3_
             have BK192 := n4_
             have BK193 := n5_
             have BK202 := n6_
             have HB := n7_
             have BK201 := n8_
             have GW201 := n9_
             have GE201 := n10_
             have NB188_201 := n11_
             have NB201_188 := n12_
             have NB189_201 := n13_
             have NB201_189 := n14_
             have NB190_201 := n15_
             have NB201_190 := n16_
             have NB191_201 := n17_
             have NB201_191 := n18_
             have NB192_201 := n19_
             have NB201_192 := n20_
             have NB193_201 := n21_
             have NB201_193 := n22_
             have NB202_201 := n23_
             have NB201_202 := n24_
             clear n0_ n1_ n2_ n3_ n4_ n5_ n6_ n7_ n8_ n9_ n10_ n11_ n12_ n13_ n14_ n15_ n16_ n17_ n18_ n19_ n20_ n21_ n22_ n23_ n24_
             clear hb hbox hg
             refine hK.out _ _ ⟨(ykC BK188.out 0).trans rfl, (ykC BK188.out 1).trans rfl, (ykC BK189.out 0).trans rfl⟩ (fun hHeld => ?_)
             clear hK K
             refine norm_ (a' := ?_) ?_ ?_
             rotate_left
             ·show Act.put _ (some 13) _ = _
              simp only [Act.put, ylA, ylZ, ylS, i64_w, i32_w]
              rfl
             exact norm_ (by first | (simp only [putAll, Act.put, ylA, ylZ, ylS]; done) | (simp only [putAll, Act.put, ylA, ylZ, ylS]; rfl)) (hJ4_5 (gb201, gb202) _ ⟨hHeld, BK188.out, BK189.out, BK190.out, BK191.out, BK192.out, BK193.out, BK201.out, BK202.out, GW201.out, GE201.out, NB188_201.out, NB201_188.out, NB189_201.out, NB201_189.out, NB190_201.out, NB201_190.out, NB191_201.out, NB201_191.out, NB192_201.out, NB201_192.out, NB193_201.out, NB201_193.out, NB202_201.out, NB201_202.out, GW202.out, GE202.out, NB188_202.out, NB202_188.out, NB189_202.out, NB202_189.out, NB190_202.out, NB202_190.out, NB191_202.out, NB202_191.out, NB192_202.out, NB202_192.out, NB193_202.out, NB202_193.out, (by repeat (first | (with_reducible first | exact HB.out | apply ybA | apply ybN | apply ybD | refine ybS ?_ GE191.out | refine ybS ?_ GE192.out | refine ybS ?_ GE193.out | refine ybS ?_ GE202.out | refine ybS ?_ GE201.out) | exact HB.out))⟩)
          ·skip
           rintro gb201 w518 ⟨hS_, h0_, h1_, h2_, h3_, h4_, h5_, h6_, h7_, h8_, h9_, h10_, h11_, h12_, h13_, h14_, h15_, h16_, h17_, h18_, h19_, h20_, h21_⟩
           have n0_ : Aside0 (w518.heap[gb188]? = some (.cells #[.int .i64 a0_0, .slice A0_1 l0_1.length c0_1] 52 (0, 0))) := ⟨h0_⟩
           have n1_ : Aside0 (w518.heap[gb189]? = some (.cells #[.slice A2_0 l2_0.length c2_0] 29 (0, 0))) := ⟨h1_⟩
           have n2_ : Aside0 (w518.heap[gb190]? = some (.cells #[.int .i64 a3_0, .int .i64 a3_1] 32 (0, 0))) := ⟨h2_⟩
           have n3_ : Aside0 (w518.heap[gb191]? = some (.cells #[.int .i64 0, .slice none 0 0] 52 (0, 0))) := ⟨h3_⟩
           have n4_ : Aside0 (w518.heap[gb192]? = some (.cells #[.slice none 0 0] 29 (0, 0))) := ⟨h4_⟩
           have n5_ : Aside0 (w518.heap[gb193]? = some (.cells #[.int .i64 0, .int .i64 0, .int .i64 0, .int .i64 0] 60 (0, 0))) := ⟨h5_⟩
           have n6_ : Aside0 (w518.heap[gb201]? = some (.cells #[.int .i64 0, .slice none 0 0] 52 (0, 0))) := ⟨h6_⟩
           have n7_ : Aside0 (w.heap.size ≤ gb201) := ⟨h7_⟩
           have n8_ : Aside0 (w.heap.size ≤ gb201) := ⟨h8_⟩
           have n9_ : Aside0 (gb188 ≠ gb201) := ⟨h9_⟩
           have n10_ : Aside0 (gb201 ≠ gb188) := ⟨h10_⟩
           have n11_ : Aside0 (gb189 ≠ gb201) := ⟨h11_⟩
           have n12_ : Aside0 (gb201 ≠ gb189) := ⟨h12_⟩
           have n13_ : Aside0 (gb190 ≠ gb201) := ⟨h13_⟩
           have n14_ : Aside0 (gb201 ≠ gb190) := ⟨h14_⟩
           have n15_ : Aside0 (gb191 ≠ gb201) := ⟨h15_⟩
           have n16_ : Aside0 (gb201 ≠ gb191) := ⟨h16_⟩
           have n17_ : Aside0 (gb192 ≠ gb201) := ⟨h17_⟩
           have n18_ : Aside0 (gb201 ≠ gb192) := ⟨h18_⟩
           have n19_ : Aside0 (gb193 ≠ gb201) := ⟨h19_⟩
           have n20_ : Aside0 (gb201 ≠ gb193) := ⟨h20_⟩
           have n21_ : Aside0 (Below w.heap.size w w518) := ⟨h21_⟩
           clear BK188
           clear BK189
           clear BK190
           clear BK191
           clear BK192
           clear BK193
           clear HB
           clear h0_ h1_ h2_ h3_ h4_ h5_ h6_ h7_ h8_ h9_ h10_ h11_ h12_ h13_ h14_ h15_ h16_ h17_ h18_ h19_ h20_ h21_
           have BK188 := n0_
           have BK189 := n1_
           have BK190 := n2_
           have BK191 := n3_
           have BK192 := n4_
           have BK193 := n5_
           have BK201 := n6_
           have GW201 := n7_
           have GE201 := n8_
           have NB188_201 := n9_
           have NB201_188 := n10_
           have NB189_201 := n11_
           have NB201_189 := n12_
           have NB190_201 := n13_
           have NB201_190 := n14_
           have NB191_201 := n15_
           have NB201_191 := n16_
           have NB192_201 := n17_
           have NB201_192 := n18_
           have NB193_201 := n19_
           have NB201_193 := n20_
           have HB := n21_
           clear n0_ n1_ n2_ n3_ n4_ n5_ n6_ n7_ n8_ n9_ n10_ n11_ n12_ n13_ n14_ n15_ n16_ n17_ n18_ n19_ n20_ n21_
           have hHeld : w518.cell? ⟨gb188, 0, none⟩ = some (.int .i64 a0_0) ∧ w518.cell? ⟨gb188, 1, none⟩ = some (.slice A0_1 l0_1.length c0_1) ∧ w518.cell? ⟨gb189, 0, none⟩ = some (.slice A2_0 l2_0.length c2_0) := hS_
           refine norm_ (a' := ?_) ?_ ?_
           rotate_left
           ·simp only [putAll, Act.put, ylA, ylZ, ylS]
            rfl
           refine two_ (i := 1) (j := 5) (Ni := some 20) (Nj := some 14) #[true, true, true, false, true, false, false, false] #[true, false, true, false, true, true, false, false] rfl rfl rfl rfl (two_of HT_.out (by kernel_rfl)) (by decide) (by decide) (fun K hK => ?_) (fun K hK => ?_)
           ·skip
            refine goes_ Try.func69 (by kernel_rfl) rfl #[.agg #[.int .i64 a0_0, .slice A0_1 l0_1.length c0_1]] (by rfl) rfl rfl (by (try simp only [List.map_toArray, List.map_cons, List.map_nil]); first | done | rfl | (simp only [List.length_drop, List.length_take]; rfl)) ?_
            with_reducible refine (impl_copyCpu.calls a0_0 _ _ l0_1 t194 t195 _ ?side1 ?side2 A6.out).mono ?_
            (case side1 => repeat (first | exact (Kd.C_below HR0_1.out HB.out) | (with_reducible refine Kd.C_alloc ?_ _) | (with_reducible refine Kd.C_drewN ?_ _) | (with_reducible refine Kd.C_drew ?_)))
            (case side2 => exact HC0_1.out)
            rintro e w519 ⟨v196, rfl, ho0, hb⟩
            refine ⟨_, rfl, ?_⟩
            have n0_ := yaM (Kd.R_lower ho0 (ybZ (by repeat (first | (with_reducible first | exact HB.out | apply ybA | apply ybN | apply ybD | refine ybS ?_ GE191.out | refine ybS ?_ GE192.out | refine ybS ?_ GE193.out | refine ybS ?_ GE201.out) | exact HB.out))))
            have n1_ := yaM (ykB (g := gb188) (o := .cells #[.int .i64 a0_0, .slice A0_1 l0_1.length c0_1] 52 (0, 0)) BK188.out hb)
            have n2_ := yaM (ykB (g := gb189) (o := .cells #[.slice A2_0 l2_0.length c2_0] 29 (0, 0)) BK189.out hb)
            have n3_ := yaM (ykB (g := gb190) (o := .cells #[.int .i64 a3_0, .int .i64 a3_1] 32 (0, 0)) BK190.out hb)
            have n4_ := yaM (ykB (g := gb191) (o := .cells #[.int .i64 0, .slice none 0 0] 52 (0, 0)) BK191.out hb)
            have n5_ := yaM (ykB (g := gb192) (o := .cells #[.slice none 0 0] 29 (0, 0)) BK192.out hb)
            have n6_ := yaM (ykB (g := gb193) (o := .cells #[.int .i64 0, .int .i64 0, .int .i64 0, .int .i64 0] 60 (0, 0)) BK193.out hb)
            have n7_ := yaM (ykB (g := gb201) (o := .cells #[.int .i64 0, .slice none 0 0] 52 (0, 0)) BK201.out hb)
            have n8_ := yaM (ybT (by repeat (first | (with_reducible first | exact HB.out | apply ybA | apply ybN | apply ybD | refine ybS ?_ GE191.out | refine ybS ?_ GE192.out | refine ybS ?_ GE193.out | refine ybS ?_ GE201.out) | exact HB.out)) hb)
            clear BK188
            clear BK189
            clear BK190
            clear BK191
            clear BK192
            clear BK193
            clear BK201
            clear HB
            have HO197 := n0_
            have BK188 := n1_
            have BK189 := n2_
            have BK190 := n3_
            have BK191 := n4_
            have BK192 := n5_
            have BK193 := n6_
            have BK201 := n7_
            have HB := n8_
            clear n0_ n1_ n2_ n3_ n4_ n5_ n6_ n7_ n8_
            (try clear hb)
            (try clear hb2)
            (try clear hk)
            (try clear hi)
            (try clear ho0)
            refine hK.out _ _ ⟨(ykC BK188.out 0).trans rfl, (ykC BK188.out 1).trans rfl, (ykC BK189.out 0).trans rfl⟩ (fun hHeld => ?_)
            clear hK K
            refine norm_ (a' := ?_) ?_ ?_
            rotate_left
            ·show Act.put _ (some 20) _ = _
             simp only [Act.put, ylA, ylZ, ylS, i64_w, i32_w]
             rfl
            exact norm_ (by first | (simp only [putAll, Act.put, ylA, ylZ, ylS]; done) | (simp only [putAll, Act.put, ylA, ylZ, ylS]; rfl)) (hJ1_4 (v196, gb201) _ ⟨hHeld, HO197.out, BK188.out, BK189.out, BK190.out, BK191.out, BK192.out, BK193.out, BK201.out, GW201.out, GE201.out, NB188_201.out, NB201_188.out, NB189_201.out, NB201_189.out, NB190_201.out, NB201_190.out, NB191_201.out, NB201_191.out, NB192_201.out, NB201_192.out, NB193_201.out, NB201_193.out, (by repeat (first | (with_reducible first | exact HB.out | apply ybA | apply ybN | apply ybD | refine ybS ?_ GE191.out | refine ybS ?_ GE192.out | refine ybS ?_ GE193.out | refine ybS ?_ GE201.out) | exact HB.out))⟩)
           ·skip
            refine box_step ?hg (N := 14) ?hd (cs := #[.slice none 0 0]) (t := 29) ?hr ?_; (case hd => rfl); (case hg => rfl); (case hr => first | (go_simp; done) | (go_simp; rfl))
            intro gb202 hg w519 hbox hb
            have n0_ := yaM (ykB (g := gb188) (o := .cells #[.int .i64 a0_0, .slice A0_1 l0_1.length c0_1] 52 (0, 0)) BK188.out hb)
            have n1_ := yaM (ykB (g := gb189) (o := .cells #[.slice A2_0 l2_0.length c2_0] 29 (0, 0)) BK189.out hb)
            have n2_ := yaM (ykB (g := gb190) (o := .cells #[.int .i64 a3_0, .int .i64 a3_1] 32 (0, 0)) BK190.out hb)
            have n3_ := yaM (ykB (g := gb191) (o := .cells #[.int .i64 0, .slice none 0 0] 52 (0, 0)) BK191.out hb)
            have n4_ := yaM (ykB (g := gb192) (o := .cells #[.slice none 0 0] 29 (0, 0)) BK192.out hb)
            have n5_ := yaM (ykB (g := gb193) (o := .cells #[.int .i64 0, .int .i64 0, .int .i64 0, .int .i64 0] 60 (0, 0)) BK193.out hb)
            have n6_ := yaM (ykB (g := gb201) (o := .cells #[.int .i64 0, .slice none 0 0] 52 (0, 0)) BK201.out hb)
            have n7_ := yaM (ybT (by repeat (first | (with_reducible first | exact HB.out | apply ybA | apply ybN | apply ybD | refine ybS ?_ GE191.out | refine ybS ?_ GE192.out | refine ybS ?_ GE193.out | refine ybS ?_ GE201.out) | exact HB.out)) hb)
            have n8_ := yaM (hbox)
            have n9_ := yaM ((by rw [hg]; exact (ybZ (by repeat (first | (with_reducible first | exact HB.out | apply ybA | apply ybN | apply ybD | refine ybS ?_ GE191.out | refine ybS ?_ GE192.out | refine ybS ?_ GE193.out | refine ybS ?_ GE201.out) | exact HB.out))) : w.heap.size ≤ gb202))
            have n10_ := yaM ((by rw [hg]; exact (ybZ (by repeat (first | (with_reducible first | exact HB.out | apply ybA | apply ybN | apply ybD | refine ybS ?_ GE191.out | refine ybS ?_ GE192.out | refine ybS ?_ GE193.out | refine ybS ?_ GE201.out) | exact HB.out))) : w.heap.size ≤ gb202))
            have n11_ := yaM ((by rw [hg]; exact Nat.ne_of_lt (ykL (g := gb188) (o := .cells #[.int .i64 a0_0, .slice A0_1 l0_1.length c0_1] 52 (0, 0)) BK188.out) : gb188 ≠ gb202))
            have n12_ := yaM ((by rw [hg]; exact Nat.ne_of_gt (ykL (g := gb188) (o := .cells #[.int .i64 a0_0, .slice A0_1 l0_1.length c0_1] 52 (0, 0)) BK188.out) : gb202 ≠ gb188))
            have n13_ := yaM ((by rw [hg]; exact Nat.ne_of_lt (ykL (g := gb189) (o := .cells #[.slice A2_0 l2_0.length c2_0] 29 (0, 0)) BK189.out) : gb189 ≠ gb202))
            have n14_ := yaM ((by rw [hg]; exact Nat.ne_of_gt (ykL (g := gb189) (o := .cells #[.slice A2_0 l2_0.length c2_0] 29 (0, 0)) BK189.out) : gb202 ≠ gb189))
            have n15_ := yaM ((by rw [hg]; exact Nat.ne_of_lt (ykL (g := gb190) (o := .cells #[.int .i64 a3_0, .int .i64 a3_1] 32 (0, 0)) BK190.out) : gb190 ≠ gb202))
            have n16_ := yaM ((by rw [hg]; exact Nat.ne_of_gt (ykL (g := gb190) (o := .cells #[.int .i64 a3_0, .int .i64 a3_1] 32 (0, 0)) BK190.out) : gb202 ≠ gb190))
            have n17_ := yaM ((by rw [hg]; exact Nat.ne_of_lt (ykL (g := gb191) (o := .cells #[.int .i64 0, .slice none 0 0] 52 (0, 0)) BK191.out) : gb191 ≠ gb202))
            have n18_ := yaM ((by rw [hg]; exact Nat.ne_of_gt (ykL (g := gb191) (o := .cells #[.int .i64 0, .slice none 0 0] 52 (0, 0)) BK191.out) : gb202 ≠ gb191))
            have n19_ := yaM ((by rw [hg]; exact Nat.ne_of_lt (ykL (g := gb192) (o := .cells #[.slice none 0 0] 29 (0, 0)) BK192.out) : gb192 ≠ gb202))
            have n20_ := yaM ((by rw [hg]; exact Nat.ne_of_gt (ykL (g := gb192) (o := .cells #[.slice none 0 0] 29 (0, 0)) BK192.out) : gb202 ≠ gb192))
            have n21_ := yaM ((by rw [hg]; exact Nat.ne_of_lt (ykL (g := gb193) (o := .cells #[.int .i64 0, .int .i64 0, .int .i64 0, .int .i64 0] 60 (0, 0)) BK193.out) : gb193 ≠ gb202))
            have n22_ := yaM ((by rw [hg]; exact Nat.ne_of_gt (ykL (g := gb193) (o := .cells #[.int .i64 0, .int .i64 0, .int .i64 0, .int .i64 0] 60 (0, 0)) BK193.out) : gb202 ≠ gb193))
            have n23_ := yaM ((by rw [hg]; exact Nat.ne_of_lt (ykL (g := gb201) (o := .cells #[.int .i64 0, .slice none 0 0] 52 (0, 0)) BK201.out) : gb201 ≠ gb202))
            have n24_ := yaM ((by rw [hg]; exact Nat.ne_of_gt (ykL (g := gb201) (o := .cells #[.int .i64 0, .slice none 0 0] 52 (0, 0)) BK201.out) : gb202 ≠ gb201))
            clear BK188
            clear BK189
            clear BK190
            clear BK191
            clear BK192
            clear BK193
            clear BK201
            clear HB
            have BK188 := n0_
            have BK189 := n1_
            have BK190 := n2_
            have BK191 := n3_
            have BK192 := n4_
            have BK193 := n5_
            have BK201 := n6_
            have HB := n7_
            have BK202 := n8_
            have GW202 := n9_
            have GE202 := n10_
            have NB188_202 := n11_
            have NB202_188 := n12_
            have NB189_202 := n13_
            have NB202_189 := n14_
            have NB190_202 := n15_
            have NB202_190 := n16_
            have NB191_202 := n17_
            have NB202_191 := n18_
            have NB192_202 := n19_
            have NB202_192 := n20_
            have NB193_202 := n21_
            have NB202_193 := n22_
            have NB201_202 := n23_
            have NB202_201 := n24_
            clear n0_ n1_ n2_ n3_ n4_ n5_ n6_ n7_ n8_ n9_ n10_ n11_ n12_ n13_ n14_ n15_ n16_ n17_ n18_ n19_ n20_ n21_ n22_ n23_ n24_
            clear hb hbox hg
            refine hK.out _ _ ⟨(ykC BK188.out 0).trans rfl, (ykC BK188.out 1).trans rfl, (ykC BK189.out 0).trans rfl⟩ (fun hHeld => ?_)
            clear hK K
            refine norm_ (a' := ?_) ?_ ?_
            rotate_left
            ·show Act.put _ (some 14) _ = _
             simp only [Act.put, ylA, ylZ, ylS, i64_w, i32_w]
             rfl
            exact norm_ (by first | (simp only [putAll, Act.put, ylA, ylZ, ylS]; done) | (simp only [putAll, Act.put, ylA, ylZ, ylS]; rfl)) (hJ4_5 (gb201, gb202) _ ⟨hHeld, BK188.out, BK189.out, BK190.out, BK191.out, BK192.out, BK193.out, BK201.out, BK202.out, GW201.out, GE201.out, NB188_201.out, NB201_188.out, NB189_201.out, NB201_189.out, NB190_201.out, NB201_190.out, NB191_201.out, NB201_191.out, NB192_201.out, NB201_192.out, NB193_201.out, NB201_193.out, NB202_201.out, NB201_202.out, GW202.out, GE202.out, NB188_202.out, NB202_188.out, NB189_202.out, NB202_189.out, NB190_202.out, NB202_190.out, NB191_202.out, NB202_191.out, NB192_202.out, NB202_192.out, NB193_202.out, NB202_193.out, (by repeat (first | (with_reducible first | exact HB.out | apply ybA | apply ybN | apply ybD | refine ybS ?_ GE191.out | refine ybS ?_ GE192.out | refine ybS ?_ GE193.out | refine ybS ?_ GE201.out | refine ybS ?_ GE202.out) | exact HB.out))⟩)
         ·skip
          rintro v196 w518 ⟨hS_, h0_, h1_, h2_, h3_, h4_, h5_, h6_, h7_⟩
          have n0_ : Aside0 (Kd.R (Kd.int .i64) 3 w518 w.heap.size (fun _ => True) v196 t195) := ⟨h0_⟩
          have n1_ : Aside0 (w518.heap[gb188]? = some (.cells #[.int .i64 a0_0, .slice A0_1 l0_1.length c0_1] 52 (0, 0))) := ⟨h1_⟩
          have n2_ : Aside0 (w518.heap[gb189]? = some (.cells #[.slice A2_0 l2_0.length c2_0] 29 (0, 0))) := ⟨h2_⟩
          have n3_ : Aside0 (w518.heap[gb190]? = some (.cells #[.int .i64 a3_0, .int .i64 a3_1] 32 (0, 0))) := ⟨h3_⟩
          have n4_ : Aside0 (w518.heap[gb191]? = some (.cells #[.int .i64 0, .slice none 0 0] 52 (0, 0))) := ⟨h4_⟩
          have n5_ : Aside0 (w518.heap[gb192]? = some (.cells #[.slice none 0 0] 29 (0, 0))) := ⟨h5_⟩
          have n6_ : Aside0 (w518.heap[gb193]? = some (.cells #[.int .i64 0, .int .i64 0, .int .i64 0, .int .i64 0] 60 (0, 0))) := ⟨h6_⟩
          have n7_ : Aside0 (Below w.heap.size w w518) := ⟨h7_⟩
          clear BK188
          clear BK189
          clear BK190
          clear BK191
          clear BK192
          clear BK193
          clear HB
          clear h0_ h1_ h2_ h3_ h4_ h5_ h6_ h7_
          have HO197 := n0_
          have BK188 := n1_
          have BK189 := n2_
          have BK190 := n3_
          have BK191 := n4_
          have BK192 := n5_
          have BK193 := n6_
          have HB := n7_
          clear n0_ n1_ n2_ n3_ n4_ n5_ n6_ n7_
          have hHeld : w518.cell? ⟨gb188, 0, none⟩ = some (.int .i64 a0_0) ∧ w518.cell? ⟨gb188, 1, none⟩ = some (.slice A0_1 l0_1.length c0_1) ∧ w518.cell? ⟨gb189, 0, none⟩ = some (.slice A2_0 l2_0.length c2_0) := hS_
          refine norm_ (a' := ?_) ?_ ?_
          rotate_left
          ·simp only [putAll, Act.put, ylA, ylZ, ylS]
           rfl
          refine three_ (i := 3) (j := 4) (k := 5) (Ni := some 22) (Nj := some 13) (Nk := some 14) #[true, true, true, true, false, false, false, false] #[true, true, true, false, true, false, false, false] #[true, true, true, false, false, true, false, false] rfl rfl rfl rfl rfl rfl (three_of HT_.out (by kernel_rfl)) (by decide) (by decide) (by decide) (fun K hK => ?_) (fun K hK => ?_) (fun K hK => ?_)
          ·skip
           refine goes_ Try.func55 (by kernel_rfl) rfl #[.agg #[.slice A2_0 l2_0.length c2_0]] (by rfl) rfl rfl (by (try simp only [List.map_toArray, List.map_cons, List.map_nil]); first | done | rfl | (simp only [List.length_drop, List.length_take]; rfl)) ?_
           with_reducible refine (impl_copyArena.calls _ _ l2_0 t198 _ ?side1 ?side2 A7.out).mono ?_
           (case side1 => repeat (first | exact (Kd.C_below HR2_0.out HB.out) | (with_reducible refine Kd.C_alloc ?_ _) | (with_reducible refine Kd.C_drewN ?_ _) | (with_reducible refine Kd.C_drew ?_)))
           (case side2 => exact HC2_0.out)
           rintro e w519 ⟨v199, rfl, ho0, hb⟩
           refine ⟨_, rfl, ?_⟩
           have n0_ := yaM (Kd.R_elder' HO197.out (Kd.R_base ho0) hb)
           have n1_ := yaM (Kd.R_lower (Kd.R_new' ho0 (yrL HO197.out)) (ybZ (by repeat (first | (with_reducible first | exact HB.out | apply ybA | apply ybN | apply ybD | refine ybS ?_ GE191.out | refine ybS ?_ GE192.out | refine ybS ?_ GE193.out) | exact HB.out))))
           have n2_ := yaM (ykB (g := gb188) (o := .cells #[.int .i64 a0_0, .slice A0_1 l0_1.length c0_1] 52 (0, 0)) BK188.out hb)
           have n3_ := yaM (ykB (g := gb189) (o := .cells #[.slice A2_0 l2_0.length c2_0] 29 (0, 0)) BK189.out hb)
           have n4_ := yaM (ykB (g := gb190) (o := .cells #[.int .i64 a3_0, .int .i64 a3_1] 32 (0, 0)) BK190.out hb)
           have n5_ := yaM (ykB (g := gb191) (o := .cells #[.int .i64 0, .slice none 0 0] 52 (0, 0)) BK191.out hb)
           have n6_ := yaM (ykB (g := gb192) (o := .cells #[.slice none 0 0] 29 (0, 0)) BK192.out hb)
           have n7_ := yaM (ykB (g := gb193) (o := .cells #[.int .i64 0, .int .i64 0, .int .i64 0, .int .i64 0] 60 (0, 0)) BK193.out hb)
           have n8_ := yaM (ybT (by repeat (first | (with_reducible first | exact HB.out | apply ybA | apply ybN | apply ybD | refine ybS ?_ GE191.out | refine ybS ?_ GE192.out | refine ybS ?_ GE193.out) | exact HB.out)) hb)
           clear HO197
           clear BK188
           clear BK189
           clear BK190
           clear BK191
           clear BK192
           clear BK193
           clear HB
           have HO197 := n0_
           have HO200 := n1_
           have BK188 := n2_
           have BK189 := n3_
           have BK190 := n4_
           have BK191 := n5_
           have BK192 := n6_
           have BK193 := n7_
           have HB := n8_
           clear n0_ n1_ n2_ n3_ n4_ n5_ n6_ n7_ n8_
           (try clear hb)
           (try clear hb2)
           (try clear hk)
           (try clear hi)
           (try clear ho0)
           refine hK.out _ _ ⟨(ykC BK188.out 0).trans rfl, (ykC BK188.out 1).trans rfl, (ykC BK189.out 0).trans rfl⟩ (fun hHeld => ?_)
           clear hK K
           refine norm_ (a' := ?_) ?_ ?_
           rotate_left
           ·show Act.put _ (some 22) _ = _
            simp only [Act.put, ylA, ylZ, ylS, i64_w, i32_w]
            rfl
           exact norm_ (by first | (simp only [putAll, Act.put, ylA, ylZ, ylS]; done) | (simp only [putAll, Act.put, ylA, ylZ, ylS]; rfl)) (hJ1_3 (v196, v199) _ ⟨hHeld, (by (with_reducible repeat (first | apply yrA | apply yrN | apply yrD)); exact yrM HO197.out (fun _ hk => hk.2)), (by (with_reducible repeat (first | apply yrA | apply yrN | apply yrD)); exact yrM HO200.out (fun _ hk => hk.2)), BK188.out, BK189.out, BK190.out, BK191.out, BK192.out, BK193.out, (by repeat (first | (with_reducible first | exact HB.out | apply ybA | apply ybN | apply ybD | refine ybS ?_ GE191.out | refine ybS ?_ GE192.out | refine ybS ?_ GE193.out) | exact HB.out))⟩)
          ·skip
           refine box_step ?hg (N := 13) ?hd (cs := #[.int .i64 0, .slice none 0 0]) (t := 52) ?hr ?_; (case hd => rfl); (case hg => rfl); (case hr => first | (go_simp; done) | (go_simp; rfl))
           intro gb201 hg w519 hbox hb
           have n0_ := yaM (yrB HO197.out hb)
           have n1_ := yaM (ykB (g := gb188) (o := .cells #[.int .i64 a0_0, .slice A0_1 l0_1.length c0_1] 52 (0, 0)) BK188.out hb)
           have n2_ := yaM (ykB (g := gb189) (o := .cells #[.slice A2_0 l2_0.length c2_0] 29 (0, 0)) BK189.out hb)
           have n3_ := yaM (ykB (g := gb190) (o := .cells #[.int .i64 a3_0, .int .i64 a3_1] 32 (0, 0)) BK190.out hb)
           have n4_ := yaM (ykB (g := gb191) (o := .cells #[.int .i64 0, .slice none 0 0] 52 (0, 0)) BK191.out hb)
           have n5_ := yaM (ykB (g := gb192) (o := .cells #[.slice none 0 0] 29 (0, 0)) BK192.out hb)
           have n6_ := yaM (ykB (g := gb193) (o := .cells #[.int .i64 0, .int .i64 0, .int .i64 0, .int .i64 0] 60 (0, 0)) BK193.out hb)
           have n7_ := yaM (ybT (by repeat (first | (with_reducible first | exact HB.out | apply ybA | apply ybN | apply ybD | refine ybS ?_ GE191.out | refine ybS ?_ GE192.out | refine ybS ?_ GE193.out) | exact HB.out)) hb)
           have n8_ := yaM (hbox)
           have n9_ := yaM ((by rw [hg]; exact (ybZ (by repeat (first | (with_reducible first | exact HB.out | apply ybA | apply ybN | apply ybD | refine ybS ?_ GE191.out | refine ybS ?_ GE192.out | refine ybS ?_ GE193.out) | exact HB.out))) : w.heap.size ≤ gb201))
           have n10_ := yaM ((by rw [hg]; exact (ybZ (by repeat (first | (with_reducible first | exact HB.out | apply ybA | apply ybN | apply ybD | refine ybS ?_ GE191.out | refine ybS ?_ GE192.out | refine ybS ?_ GE193.out) | exact HB.out))) : w.heap.size ≤ gb201))
           have n11_ := yaM ((by rw [hg]; exact Nat.ne_of_lt (ykL (g := gb188) (o := .cells #[.int .i64 a0_0, .slice A0_1 l0_1.length c0_1] 52 (0, 0)) BK188.out) : gb188 ≠ gb201))
           have n12_ := yaM ((by rw [hg]; exact Nat.ne_of_gt (ykL (g := gb188) (o := .cells #[.int .i64 a0_0, .slice A0_1 l0_1.length c0_1] 52 (0, 0)) BK188.out) : gb201 ≠ gb188))
           have n13_ := yaM ((by rw [hg]; exact Nat.ne_of_lt (ykL (g := gb189) (o := .cells #[.slice A2_0 l2_0.length c2_0] 29 (0, 0)) BK189.out) : gb189 ≠ gb201))
           have n14_ := yaM ((by rw [hg]; exact Nat.ne_of_gt (ykL (g := gb189) (o := .cells #[.slice A2_0 l2_0.length c2_0] 29 (0, 0)) BK189.out) : gb201 ≠ gb189))
           have n15_ := yaM ((by rw [hg]; exact Nat.ne_of_lt (ykL (g := gb190) (o := .cells #[.int .i64 a3_0, .int .i64 a3_1] 32 (0, 0)) BK190.out) : gb190 ≠ gb201))
           have n16_ := yaM ((by rw [hg]; exact Nat.ne_of_gt (ykL (g := gb190) (o := .cells #[.int .i64 a3_0, .int .i64 a3_1] 32 (0, 0)) BK190.out) : gb201 ≠ gb190))
           have n17_ := yaM ((by rw [hg]; exact Nat.ne_of_lt (ykL (g := gb191) (o := .cells #[.int .i64 0, .slice none 0 0] 52 (0, 0)) BK191.out) : gb191 ≠ gb201))
           have n18_ := yaM ((by rw [hg]; exact Nat.ne_of_gt (ykL (g := gb191) (o := .cells #[.int .i64 0, .slice none 0 0] 52 (0, 0)) BK191.out) : gb201 ≠ gb191))
           have n19_ := yaM ((by rw [hg]; exact Nat.ne_of_lt (ykL (g := gb192) (o := .cells #[.slice none 0 0] 29 (0, 0)) BK192.out) : gb192 ≠ gb201))
           have n20_ := yaM ((by rw [hg]; exact Nat.ne_of_gt (ykL (g := gb192) (o := .cells #[.slice none 0 0] 29 (0, 0)) BK192.out) : gb201 ≠ gb192))
           have n21_ := yaM ((by rw [hg]; exact Nat.ne_of_lt (ykL (g := gb193) (o := .cells #[.int .i64 0, .int .i64 0, .int .i64 0, .int .i64 0] 60 (0, 0)) BK193.out) : gb193 ≠ gb201))
           have n22_ := yaM ((by rw [hg]; exact Nat.ne_of_gt (ykL (g := gb193) (o := .cells #[.int .i64 0, .int .i64 0, .int .i64 0, .int .i64 0] 60 (0, 0)) BK193.out) : gb201 ≠ gb193))
           clear HO197
           clear BK188
           clear BK189
           clear BK190
           clear BK191
           clear BK192
           clear BK193
           clear HB
           have HO197 := n0_
           have BK188 := n1_
           have BK189 := n2_
           have BK190 := n3_
           have BK191 := n4_
           have BK192 := n5_
           have BK193 := n6_
           have HB := n7_
           have BK201 := n8_
           have GW201 := n9_
           have GE201 := n10_
           have NB188_201 := n11_
           have NB201_188 := n12_
           have NB189_201 := n13_
           have NB201_189 := n14_
           have NB190_201 := n15_
           have NB201_190 := n16_
           have NB191_201 := n17_
           have NB201_191 := n18_
           have NB192_201 := n19_
           have NB201_192 := n20_
           have NB193_201 := n21_
           have NB201_193 := n22_
           clear n0_ n1_ n2_ n3_ n4_ n5_ n6_ n7_ n8_ n9_ n10_ n11_ n12_ n13_ n14_ n15_ n16_ n17_ n18_ n19_ n20_ n21_ n22_
           clear hb hbox hg
           refine hK.out _ _ ⟨(ykC BK188.out 0).trans rfl, (ykC BK188.out 1).trans rfl, (ykC BK189.out 0).trans rfl⟩ (fun hHeld => ?_)
           clear hK K
           refine norm_ (a' := ?_) ?_ ?_
           rotate_left
           ·show Act.put _ (some 13) _ = _
            simp only [Act.put, ylA, ylZ, ylS, i64_w, i32_w]
            rfl
           exact norm_ (by first | (simp only [putAll, Act.put, ylA, ylZ, ylS]; done) | (simp only [putAll, Act.put, ylA, ylZ, ylS]; rfl)) (hJ1_4 (v196, gb201) _ ⟨hHeld, HO197.out, BK188.out, BK189.out, BK190.out, BK191.out, BK192.out, BK193.out, BK201.out, GW201.out, GE201.out, NB188_201.out, NB201_188.out, NB189_201.out, NB201_189.out, NB190_201.out, NB201_190.out, NB191_201.out, NB201_191.out, NB192_201.out, NB201_192.out, NB193_201.out, NB201_193.out, (by repeat (first | (with_reducible first | exact HB.out | apply ybA | apply ybN | apply ybD | refine ybS ?_ GE191.out | refine ybS ?_ GE192.out | refine ybS ?_ GE193.out | refine ybS ?_ GE201.out) | exact HB.out))⟩)
          ·skip
           refine box_step ?hg (N := 14) ?hd (cs := #[.slice none 0 0]) (t := 29) ?hr ?_; (case hd => rfl); (case hg => rfl); (case hr => first | (go_simp; done) | (go_simp; rfl))
           intro gb202 hg w519 hbox hb
           have n0_ := yaM (yrB HO197.out hb)
           have n1_ := yaM (ykB (g := gb188) (o := .cells #[.int .i64 a0_0, .slice A0_1 l0_1.length c0_1] 52 (0, 0)) BK188.out hb)
           have n2_ := yaM (ykB (g := gb189) (o := .cells #[.slice A2_0 l2_0.length c2_0] 29 (0, 0)) BK189.out hb)
           have n3_ := yaM (ykB (g := gb190) (o := .cells #[.int .i64 a3_0, .int .i64 a3_1] 32 (0, 0)) BK190.out hb)
           have n4_ := yaM (ykB (g := gb191) (o := .cells #[.int .i64 0, .slice none 0 0] 52 (0, 0)) BK191.out hb)
           have n5_ := yaM (ykB (g := gb192) (o := .cells #[.slice none 0 0] 29 (0, 0)) BK192.out hb)
           have n6_ := yaM (ykB (g := gb193) (o := .cells #[.int .i64 0, .int .i64 0, .int .i64 0, .int .i64 0] 60 (0, 0)) BK193.out hb)
           have n7_ := yaM (ybT (by repeat (first | (with_reducible first | exact HB.out | apply ybA | apply ybN | apply ybD | refine ybS ?_ GE191.out | refine ybS ?_ GE192.out | refine ybS ?_ GE193.out) | exact HB.out)) hb)
           have n8_ := yaM (hbox)
           have n9_ := yaM ((by rw [hg]; exact (ybZ (by repeat (first | (with_reducible first | exact HB.out | apply ybA | apply ybN | apply ybD | refine ybS ?_ GE191.out | refine ybS ?_ GE192.out | refine ybS ?_ GE193.out) | exact HB.out))) : w.heap.size ≤ gb202))
           have n10_ := yaM ((by rw [hg]; exact (ybZ (by repeat (first | (with_reducible first | exact HB.out | apply ybA | apply ybN | apply ybD | refine ybS ?_ GE191.out | refine ybS ?_ GE192.out | refine ybS ?_ GE193.out) | exact HB.out))) : w.heap.size ≤ gb202))
           have n11_ := yaM ((by rw [hg]; exact Nat.ne_of_lt (ykL (g := gb188) (o := .cells #[.int .i64 a0_0, .slice A0_1 l0_1.length c0_1] 52 (0, 0)) BK188.out) : gb188 ≠ gb202))
           have n12_ := yaM ((by rw [hg]; exact Nat.ne_of_gt (ykL (g := gb188) (o := .cells #[.int .i64 a0_0, .slice A0_1 l0_1.length c0_1] 52 (0, 0)) BK188.out) : gb202 ≠ gb188))
           have n13_ := yaM ((by rw [hg]; exact Nat.ne_of_lt (ykL (g := gb189) (o := .cells #[.slice A2_0 l2_0.length c2_0] 29 (0, 0)) BK189.out) : gb189 ≠ gb202))
           have n14_ := yaM ((by rw [hg]; exact Nat.ne_of_gt (ykL (g := gb189) (o := .cells #[.slice A2_0 l2_0.length c2_0] 29 (0, 0)) BK189.out) : gb202 ≠ gb189))
           have n15_ := yaM ((by rw [hg]; exact Nat.ne_of_lt (ykL (g := gb190) (o := .cells #[.int .i64 a3_0, .int .i64 a3_1] 32 (0, 0)) BK190.out) : gb190 ≠ gb202))
           have n16_ := yaM ((by rw [hg]; exact Nat.ne_of_gt (ykL (g := gb190) (o := .cells #[.int .i64 a3_0, .int .i64 a3_1] 32 (0, 0)) BK190.out) : gb202 ≠ gb190))
           have n17_ := yaM ((by rw [hg]; exact Nat.ne_of_lt (ykL (g := gb191) (o := .cells #[.int .i64 0, .slice none 0 0] 52 (0, 0)) BK191.out) : gb191 ≠ gb202))
           have n18_ := yaM ((by rw [hg]; exact Nat.ne_of_gt (ykL (g := gb191) (o := .cells #[.int .i64 0, .slice none 0 0] 52 (0, 0)) BK191.out) : gb202 ≠ gb191))
           have n19_ := yaM ((by rw [hg]; exact Nat.ne_of_lt (ykL (g := gb192) (o := .cells #[.slice none 0 0] 29 (0, 0)) BK192.out) : gb192 ≠ gb202))
           have n20_ := yaM ((by rw [hg]; exact Nat.ne_of_gt (ykL (g := gb192) (o := .cells #[.slice none 0 0] 29 (0, 0)) BK192.out) : gb202 ≠ gb192))
           have n21_ := yaM ((by rw [hg]; exact Nat.ne_of_lt (ykL (g := gb193) (o := .cells #[.int .i64 0, .int .i64 0, .int .i64 0, .int .i64 0] 60 (0, 0)) BK193.out) : gb193 ≠ gb202))
           have n22_ := yaM ((by rw [hg]; exact Nat.ne_of_gt (ykL (g := gb193) (o := .cells #[.int .i64 0, .int .i64 0, .int .i64 0, .int .i64 0] 60 (0, 0)) BK193.out) : gb202 ≠ gb193))
           clear HO197
           clear BK188
           clear BK189
           clear BK190
           clear BK191
           clear BK192
           clear BK193
           clear HB
           have HO197 := n0_
           have BK188 := n1_
           have BK189 := n2_
           have BK190 := n3_
           have BK191 := n4_
           have BK192 := n5_
           have BK193 := n6_
           have HB := n7_
           have BK202 := n8_
           have GW202 := n9_
           have GE202 := n10_
           have NB188_202 := n11_
           have NB202_188 := n12_
           have NB189_202 := n13_
           have NB202_189 := n14_
           have NB190_202 := n15_
           have NB202_190 := n16_
           have NB191_202 := n17_
           have NB202_191 := n18_
           have NB192_202 := n19_
           have NB202_192 := n20_
           have NB193_202 := n21_
           have NB202_193 := n22_
           clear n0_ n1_ n2_ n3_ n4_ n5_ n6_ n7_ n8_ n9_ n10_ n11_ n12_ n13_ n14_ n15_ n16_ n17_ n18_ n19_ n20_ n21_ n22_
           clear hb hbox hg
           refine hK.out _ _ ⟨(ykC BK188.out 0).trans rfl, (ykC BK188.out 1).trans rfl, (ykC BK189.out 0).trans rfl⟩ (fun hHeld => ?_)
           clear hK K
           refine norm_ (a' := ?_) ?_ ?_
           rotate_left
           ·show Act.put _ (some 14) _ = _
            simp only [Act.put, ylA, ylZ, ylS, i64_w, i32_w]
            rfl
           exact norm_ (by first | (simp only [putAll, Act.put, ylA, ylZ, ylS]; done) | (simp only [putAll, Act.put, ylA, ylZ, ylS]; rfl)) (hJ1_5 (v196, gb202) _ ⟨hHeld, HO197.out, BK188.out, BK189.out, BK190.out, BK191.out, BK192.out, BK193.out, BK202.out, GW202.out, GE202.out, NB188_202.out, NB202_188.out, NB189_202.out, NB202_189.out, NB190_202.out, NB202_190.out, NB191_202.out, NB202_191.out, NB192_202.out, NB202_192.out, NB193_202.out, NB202_193.out, (by repeat (first | (with_reducible first | exact HB.out | apply ybA | apply ybN | apply ybD | refine ybS ?_ GE191.out | refine ybS ?_ GE192.out | refine ybS ?_ GE193.out | refine ybS ?_ GE202.out) | exact HB.out))⟩)
        ·skip
         rintro ⟨gb201, gb202⟩ w519 ⟨hS_, h0_, h1_, h2_, h3_, h4_, h5_, h6_, h7_, h8_, h9_, h10_, h11_, h12_, h13_, h14_, h15_, h16_, h17_, h18_, h19_, h20_, h21_, h22_, h23_, h24_, h25_, h26_, h27_, h28_, h29_, h30_, h31_, h32_, h33_, h34_, h35_, h36_, h37_, h38_⟩
         have n0_ : Aside0 (w519.heap[gb188]? = some (.cells #[.int .i64 a0_0, .slice A0_1 l0_1.length c0_1] 52 (0, 0))) := ⟨h0_⟩
         have n1_ : Aside0 (w519.heap[gb189]? = some (.cells #[.slice A2_0 l2_0.length c2_0] 29 (0, 0))) := ⟨h1_⟩
         have n2_ : Aside0 (w519.heap[gb190]? = some (.cells #[.int .i64 a3_0, .int .i64 a3_1] 32 (0, 0))) := ⟨h2_⟩
         have n3_ : Aside0 (w519.heap[gb191]? = some (.cells #[.int .i64 0, .slice none 0 0] 52 (0, 0))) := ⟨h3_⟩
         have n4_ : Aside0 (w519.heap[gb192]? = some (.cells #[.slice none 0 0] 29 (0, 0))) := ⟨h4_⟩
         have n5_ : Aside0 (w519.heap[gb193]? = some (.cells #[.int .i64 0, .int .i64 0, .int .i64 0, .int .i64 0] 60 (0, 0))) := ⟨h5_⟩
         have n6_ : Aside0 (w519.heap[gb201]? = some (.cells #[.int .i64 0, .slice none 0 0] 52 (0, 0))) := ⟨h6_⟩
         have n7_ : Aside0 (w519.heap[gb202]? = some (.cells #[.slice none 0 0] 29 (0, 0))) := ⟨h7_⟩
         have n8_ : Aside0 (w.heap.size ≤ gb201) := ⟨h8_⟩
         have n9_ : Aside0 (w.heap.size ≤ gb201) := ⟨h9_⟩
         have n10_ : Aside0 (gb188 ≠ gb201) := ⟨h10_⟩
         have n11_ : Aside0 (gb201 ≠ gb188) := ⟨h11_⟩
         have n12_ : Aside0 (gb189 ≠ gb201) := ⟨h12_⟩
         have n13_ : Aside0 (gb201 ≠ gb189) := ⟨h13_⟩
         have n14_ : Aside0 (gb190 ≠ gb201) := ⟨h14_⟩
         have n15_ : Aside0 (gb201 ≠ gb190) := ⟨h15_⟩
         have n16_ : Aside0 (gb191 ≠ gb201) := ⟨h16_⟩
         have n17_ : Aside0 (gb201 ≠ gb191) := ⟨h17_⟩
         have n18_ : Aside0 (gb192 ≠ gb201) := ⟨h18_⟩
         have n19_ : Aside0 (gb201 ≠ gb192) := ⟨h19_⟩
         have n20_ : Aside0 (gb193 ≠ gb201) := ⟨h20_⟩
         have n21_ : Aside0 (gb201 ≠ gb193) := ⟨h21_⟩
         have n22_ : Aside0 (gb202 ≠ gb201) := ⟨h22_⟩
         have n23_ : Aside0 (gb201 ≠ gb202) := ⟨h23_⟩
         have n24_ : Aside0 (w.heap.size ≤ gb202) := ⟨h24_⟩
         have n25_ : Aside0 (w.heap.size ≤ gb202) := ⟨h25_⟩
         have n26_ : Aside0 (gb188 ≠ gb202) := ⟨h26_⟩
         have n27_ : Aside0 (gb202 ≠ gb188) := ⟨h27_⟩
         have n28_ : Aside0 (gb189 ≠ gb202) := ⟨h28_⟩
         have n29_ : Aside0 (gb202 ≠ gb189) := ⟨h29_⟩
         have n30_ : Aside0 (gb190 ≠ gb202) := ⟨h30_⟩
         have n31_ : Aside0 (gb202 ≠ gb190) := ⟨h31_⟩
         have n32_ : Aside0 (gb191 ≠ gb202) := ⟨h32_⟩
         have n33_ : Aside0 (gb202 ≠ gb191) := ⟨h33_⟩
         have n34_ : Aside0 (gb192 ≠ gb202) := ⟨h34_⟩
         have n35_ : Aside0 (gb202 ≠ gb192) := ⟨h35_⟩
         have n36_ : Aside0 (gb193 ≠ gb202) := ⟨h36_⟩
         have n37_ : Aside0 (gb202 ≠ gb193) := ⟨h37_⟩
         have n38_ : Aside0 (Below w.heap.size w w519) := ⟨h38_⟩
         clear BK188
         clear BK189
         clear BK190
         clear BK191
         clear BK192
         clear BK193
         clear HB
         clear h0_ h1_ h2_ h3_ h4_ h5_ h6_ h7_ h8_ h9_ h10_ h11_ h12_ h13_ h14_ h15_ h16_ h17_ h18_ h19_ h20_ h21_ h22_ h23_ h24_ h25_ h26_ h27_ h28_ h29_ h30_ h31_ h32_ h33_ h34_ h35_ h36_ h37_ h38_
         have BK188 := n0_
         have BK189 := n1_
         have BK190 := n2_
         have BK191 := n3_
         have BK192 := n4_
         have BK193 := n5_
         have BK201 := n6_
         have BK202 := n7_
         have GW201 := n8_
         have GE201 := n9_
         have NB188_201 := n10_
         have NB201_188 := n11_
         have NB189_201 := n12_
         have NB201_189 := n13_
         have NB190_201 := n14_
         have NB201_190 := n15_
         have NB191_201 := n16_
         have NB201_191 := n17_
         have NB192_201 := n18_
         have NB201_192 := n19_
         have NB193_201 := n20_
         have NB201_193 := n21_
         have NB202_201 := n22_
         have NB201_202 := n23_
         have GW202 := n24_
         have GE202 := n25_
         have NB188_202 := n26_
         have NB202_188 := n27_
         have NB189_202 := n28_
         have NB202_189 := n29_
         have NB190_202 := n30_
         have NB202_190 := n31_
         have NB191_202 := n32_
         have NB202_191 := n33_
         have NB192_202 := n34_
         have NB202_192 := n35_
         have NB193_202 := n36_
         have NB202_193 := n37_
         have HB := n38_
         clear n0_ n1_ n2_ n3_ n4_ n5_ n6_ n7_ n8_ n9_ n10_ n11_ n12_ n13_ n14_ n15_ n16_ n17_ n18_ n19_ n20_ n21_ n22_ n23_ n24_ n25_ n26_ n27_ n28_ n29_ n30_ n31_ n32_ n33_ n34_ n35_ n36_ n37_ n38_
         have hHeld : w519.cell? ⟨gb188, 0, none⟩ = some (.int .i64 a0_0) ∧ w519.cell? ⟨gb188, 1, none⟩ = some (.slice A0_1 l0_1.length c0_1) ∧ w519.cell? ⟨gb189, 0, none⟩ = some (.slice A2_0 l2_0.length c2_0) := hS_
         refine norm_ (a' := ?_) ?_ ?_
         rotate_left
         ·simp only [putAll, Act.put, ylA, ylZ, ylS]
          rfl
         refine one_ (i := 1) (N := some 20) #[true, true, true, false, true, true, false, false] rfl rfl (one_of HT_.out (by kernel_rfl)) (by decide) (fun K hK => ?_)
         refine goes_ Try.func69 (by kernel_rfl) rfl #[.agg #[.int .i64 a0_0, .slice A0_1 l0_1.length c0_1]] (by rfl) rfl rfl (by (try simp only [List.map_toArray, List.map_cons, List.map_nil]); first | done | rfl | (simp only [List.length_drop, List.length_take]; rfl)) ?_
         with_reducible refine (impl_copyCpu.calls a0_0 _ _ l0_1 t194 t195 _ ?side1 ?side2 A6.out).mono ?_
         (case side1 => repeat (first | exact (Kd.C_below HR0_1.out HB.out) | (with_reducible refine Kd.C_alloc ?_ _) | (with_reducible refine Kd.C_drewN ?_ _) | (with_reducible refine Kd.C_drew ?_)))
         (case side2 => exact HC0_1.out)
         rintro e w520 ⟨v196, rfl, ho0, hb⟩
         refine ⟨_, rfl, ?_⟩
         have n0_ := yaM (Kd.R_lower ho0 (ybZ (by repeat (first | (with_reducible first | exact HB.out | apply ybA | apply ybN | apply ybD | refine ybS ?_ GE191.out | refine ybS ?_ GE192.out | refine ybS ?_ GE193.out | refine ybS ?_ GE201.out | refine ybS ?_ GE202.out) | exact HB.out))))
         have n1_ := yaM (ykB (g := gb188) (o := .cells #[.int .i64 a0_0, .slice A0_1 l0_1.length c0_1] 52 (0, 0)) BK188.out hb)
         have n2_ := yaM (ykB (g := gb189) (o := .cells #[.slice A2_0 l2_0.length c2_0] 29 (0, 0)) BK189.out hb)
         have n3_ := yaM (ykB (g := gb190) (o := .cells #[.int .i64 a3_0, .int .i64 a3_1] 32 (0, 0)) BK190.out hb)
         have n4_ := yaM (ykB (g := gb191) (o := .cells #[.int .i64 0, .slice none 0 0] 52 (0, 0)) BK191.out hb)
         have n5_ := yaM (ykB (g := gb192) (o := .cells #[.slice none 0 0] 29 (0, 0)) BK192.out hb)
         have n6_ := yaM (ykB (g := gb193) (o := .cells #[.int .i64 0, .int .i64 0, .int .i64 0, .int .i64 0] 60 (0, 0)) BK193.out hb)
         have n7_ := yaM (ykB (g := gb201) (o := .cells #[.int .i64 0, .slice none 0 0] 52 (0, 0)) BK201.out hb)
         have n8_ := yaM (ykB (g := gb202) (o := .cells #[.slice none 0 0] 29 (0, 0)) BK202.out hb)
         have n9_ := yaM (ybT (by repeat (first | (with_reducible first | exact HB.out | apply ybA | apply ybN | apply ybD | refine ybS ?_ GE191.out | refine ybS ?_ GE192.out | refine ybS ?_ GE193.out | refine ybS ?_ GE201.out | refine ybS ?_ GE202.out) | exact HB.out)) hb)
         clear BK188
         clear BK189
         clear BK190
         clear BK191
         clear BK192
         clear BK193
         clear BK201
         clear BK202
         clear HB
         have HO197 := n0_
         have BK188 := n1_
         have BK189 := n2_
         have BK190 := n3_
         have BK191 := n4_
         have BK192 := n5_
         have BK193 := n6_
         have BK201 := n7_
         have BK202 := n8_
         have HB := n9_
         clear n0_ n1_ n2_ n3_ n4_ n5_ n6_ n7_ n8_ n9_
         (try clear hb)
         (try clear hb2)
         (try clear hk)
         (try clear hi)
         (try clear ho0)
         refine hK.out _ _ ⟨(ykC BK188.out 0).trans rfl, (ykC BK188.out 1).trans rfl, (ykC BK189.out 0).trans rfl⟩ (fun hHeld => ?_)
         clear hK K
         refine norm_ (a' := ?_) ?_ ?_
         rotate_left
         ·show Act.put _ (some 20) _ = _
          simp only [Act.put, ylA, ylZ, ylS, i64_w, i32_w]
          rfl
         exact norm_ (by first | (simp only [putAll, Act.put, ylA, ylZ, ylS]; done) | (simp only [putAll, Act.put, ylA, ylZ, ylS]; rfl)) (hJ1_4_5 (v196, gb201, gb202) _ ⟨hHeld, HO197.out, BK188.out, BK189.out, BK190.out, BK191.out, BK192.out, BK193.out, BK201.out, BK202.out, GW201.out, GE201.out, NB188_201.out, NB201_188.out, NB189_201.out, NB201_189.out, NB190_201.out, NB201_190.out, NB191_201.out, NB201_191.out, NB192_201.out, NB201_192.out, NB193_201.out, NB201_193.out, NB202_201.out, NB201_202.out, GW202.out, GE202.out, NB188_202.out, NB202_188.out, NB189_202.out, NB202_189.out, NB190_202.out, NB202_190.out, NB191_202.out, NB202_191.out, NB192_202.out, NB202_192.out, NB193_202.out, NB202_193.out, (by repeat (first | (with_reducible first | exact HB.out | apply ybA | apply ybN | apply ybD | refine ybS ?_ GE191.out | refine ybS ?_ GE192.out | refine ybS ?_ GE193.out | refine ybS ?_ GE201.out | refine ybS ?_ GE202.out) | exact HB.out))⟩)
       ·skip
        rintro ⟨v196, gb202⟩ w519 ⟨hS_, h0_, h1_, h2_, h3_, h4_, h5_, h6_, h7_, h8_, h9_, h10_, h11_, h12_, h13_, h14_, h15_, h16_, h17_, h18_, h19_, h20_, h21_, h22_⟩
        have n0_ : Aside0 (Kd.R (Kd.int .i64) 3 w519 w.heap.size (fun _ => True) v196 t195) := ⟨h0_⟩
        have n1_ : Aside0 (w519.heap[gb188]? = some (.cells #[.int .i64 a0_0, .slice A0_1 l0_1.length c0_1] 52 (0, 0))) := ⟨h1_⟩
        have n2_ : Aside0 (w519.heap[gb189]? = some (.cells #[.slice A2_0 l2_0.length c2_0] 29 (0, 0))) := ⟨h2_⟩
        have n3_ : Aside0 (w519.heap[gb190]? = some (.cells #[.int .i64 a3_0, .int .i64 a3_1] 32 (0, 0))) := ⟨h3_⟩
        have n4_ : Aside0 (w519.heap[gb191]? = some (.cells #[.int .i64 0, .slice none 0 0] 52 (0, 0))) := ⟨h4_⟩
        have n5_ : Aside0 (w519.heap[gb192]? = some (.cells #[.slice none 0 0] 29 (0, 0))) := ⟨h5_⟩
        have n6_ : Aside0 (w519.heap[gb193]? = some (.cells #[.int .i64 0, .int .i64 0, .int .i64 0, .int .i64 0] 60 (0, 0))) := ⟨h6_⟩
        have n7_ : Aside0 (w519.heap[gb202]? = some (.cells #[.slice none 0 0] 29 (0, 0))) := ⟨h7_⟩
        have n8_ : Aside0 (w.heap.size ≤ gb202) := ⟨h8_⟩
        have n9_ : Aside0 (w.heap.size ≤ gb202) := ⟨h9_⟩
        have n10_ : Aside0 (gb188 ≠ gb202) := ⟨h10_⟩
        have n11_ : Aside0 (gb202 ≠ gb188) := ⟨h11_⟩
        have n12_ : Aside0 (gb189 ≠ gb202) := ⟨h12_⟩
        have n13_ : Aside0 (gb202 ≠ gb189) := ⟨h13_⟩
        have n14_ : Aside0 (gb190 ≠ gb202) := ⟨h14_⟩
        have n15_ : Aside0 (gb202 ≠ gb190) := ⟨h15_⟩
        have n16_ : Aside0 (gb191 ≠ gb202) := ⟨h16_⟩
        have n17_ : Aside0 (gb202 ≠ gb191) := ⟨h17_⟩
        have n18_ : Aside0 (gb192 ≠ gb202) := ⟨h18_⟩
        have n19_ : Aside0 (gb202 ≠ gb192) := ⟨h19_⟩
        have n20_ : Aside0 (gb193 ≠ gb202) := ⟨h20_⟩
        have n21_ : Aside0 (gb202 ≠ gb193) := ⟨h21_⟩
        have n22_ : Aside0 (Below w.heap.size w w519) := ⟨h22_⟩
        clear BK188
        clear BK189
        clear BK190
        clear BK191
        clear BK192
        clear BK193
        clear HB
        clear h0_ h1_ h2_ h3_ h4_ h5_ h6_ h7_ h8_ h9_ h10_ h11_ h12_ h13_ h14_ h15_ h16_ h17_ h18_ h19_ h20_ h21_ h22_
        have HO197 := n0_
        have BK188 := n1_
        have BK189 := n2_
        have BK190 := n3_
        have BK191 := n4_
        have BK192 := n5_
        have BK193 := n6_
        have BK202 := n7_
        have GW202 := n8_
        have GE202 := n9_
        have NB188_202 := n10_
        have NB202_188 := n11_
        have NB189_202 := n12_
        have NB202_189 := n13_
        have NB190_202 := n14_
        have NB202_190 := n15_
        have NB191_202 := n16_
        have NB202_191 := n17_
        have NB192_202 := n18_
        have NB202_192 := n19_
        have NB193_202 := n20_
        have NB202_193 := n21_
        have HB := n22_
        clear n0_ n1_ n2_ n3_ n4_ n5_ n6_ n7_ n8_ n9_ n10_ n11_ n12_ n13_ n14_ n15_ n16_ n17_ n18_ n19_ n20_ n21_ n22_
        have hHeld : w519.cell? ⟨gb188, 0, none⟩ = some (.int .i64 a0_0) ∧ w519.cell? ⟨gb188, 1, none⟩ = some (.slice A0_1 l0_1.length c0_1) ∧ w519.cell? ⟨gb189, 0, none⟩ = some (.slice A2_0 l2_0.length c2_0) := hS_
        refine norm_ (a' := ?_) ?_ ?_
        rotate_left
        ·simp only [putAll, Act.put, ylA, ylZ, ylS]
         rfl
        refine two_ (i := 3) (j := 4) (Ni := some 22) (Nj := some 13) #[true, true, true, true, false, true, false, false] #[true, true, true, false, true, true, false, false] rfl rfl rfl rfl (two_of HT_.out (by kernel_rfl)) (by decide) (by decide) (fun K hK => ?_) (fun K hK => ?_)
        ·skip
         refine goes_ Try.func55 (by kernel_rfl) rfl #[.agg #[.slice A2_0 l2_0.length c2_0]] (by rfl) rfl rfl (by (try simp only [List.map_toArray, List.map_cons, List.map_nil]); first | done | rfl | (simp only [List.length_drop, List.length_take]; rfl)) ?_
         with_reducible refine (impl_copyArena.calls _ _ l2_0 t198 _ ?side1 ?side2 A7.out).mono ?_
         (case side1 => repeat (first | exact (Kd.C_below HR2_0.out HB.out) | (with_reducible refine Kd.C_alloc ?_ _) | (with_reducible refine Kd.C_drewN ?_ _) | (with_reducible refine Kd.C_drew ?_)))
         (case side2 => exact HC2_0.out)
         rintro e w520 ⟨v199, rfl, ho0, hb⟩
         refine ⟨_, rfl, ?_⟩
         have n0_ := yaM (Kd.R_elder' HO197.out (Kd.R_base ho0) hb)
         have n1_ := yaM (Kd.R_lower (Kd.R_new' ho0 (yrL HO197.out)) (ybZ (by repeat (first | (with_reducible first | exact HB.out | apply ybA | apply ybN | apply ybD | refine ybS ?_ GE191.out | refine ybS ?_ GE192.out | refine ybS ?_ GE193.out | refine ybS ?_ GE202.out) | exact HB.out))))
         have n2_ := yaM (ykB (g := gb188) (o := .cells #[.int .i64 a0_0, .slice A0_1 l0_1.length c0_1] 52 (0, 0)) BK188.out hb)
         have n3_ := yaM (ykB (g := gb189) (o := .cells #[.slice A2_0 l2_0.length c2_0] 29 (0, 0)) BK189.out hb)
         have n4_ := yaM (ykB (g := gb190) (o := .cells #[.int .i64 a3_0, .int .i64 a3_1] 32 (0, 0)) BK190.out hb)
         have n5_ := yaM (ykB (g := gb191) (o := .cells #[.int .i64 0, .slice none 0 0] 52 (0, 0)) BK191.out hb)
         have n6_ := yaM (ykB (g := gb192) (o := .cells #[.slice none 0 0] 29 (0, 0)) BK192.out hb)
         have n7_ := yaM (ykB (g := gb193) (o := .cells #[.int .i64 0, .int .i64 0, .int .i64 0, .int .i64 0] 60 (0, 0)) BK193.out hb)
         have n8_ := yaM (ykB (g := gb202) (o := .cells #[.slice none 0 0] 29 (0, 0)) BK202.out hb)
         have n9_ := yaM (ybT (by repeat (first | (with_reducible first | exact HB.out | apply ybA | apply ybN | apply ybD | refine ybS ?_ GE191.out | refine ybS ?_ GE192.out | refine ybS ?_ GE193.out | refine ybS ?_ GE202.out) | exact HB.out)) hb)
         clear HO197
         clear BK188
         clear BK189
         clear BK190
         clear BK191
         clear BK192
         clear BK193
         clear BK202
         clear HB
         have HO197 := n0_
         have HO200 := n1_
         have BK188 := n2_
         have BK189 := n3_
         have BK190 := n4_
         have BK191 := n5_
         have BK192 := n6_
         have BK193 := n7_
         have BK202 := n8_
         have HB := n9_
         clear n0_ n1_ n2_ n3_ n4_ n5_ n6_ n7_ n8_ n9_
         (try clear hb)
         (try clear hb2)
         (try clear hk)
         (try clear hi)
         (try clear ho0)
         refine hK.out _ _ ⟨(ykC BK188.out 0).trans rfl, (ykC BK188.out 1).trans rfl, (ykC BK189.out 0).trans rfl⟩ (fun hHeld => ?_)
         clear hK K
         refine norm_ (a' := ?_) ?_ ?_
         rotate_left
         ·show Act.put _ (some 22) _ = _
          simp only [Act.put, ylA, ylZ, ylS, i64_w, i32_w]
          rfl
         exact norm_ (by first | (simp only [putAll, Act.put, ylA, ylZ, ylS]; done) | (simp only [putAll, Act.put, ylA, ylZ, ylS]; rfl)) (hJ1_3_5 (v196, v199, gb202) _ ⟨hHeld, (by (with_reducible repeat (first | apply yrA | apply yrN | apply yrD)); exact yrM HO197.out (fun _ hk => hk.2)), (by (with_reducible repeat (first | apply yrA | apply yrN | apply yrD)); exact yrM HO200.out (fun _ hk => hk.2)), BK188.out, BK189.out, BK190.out, BK191.out, BK192.out, BK193.out, BK202.out, GW202.out, GE202.out, NB188_202.out, NB202_188.out, NB189_202.out, NB202_189.out, NB190_202.out, NB202_190.out, NB191_202.out, NB202_191.out, NB192_202.out, NB202_192.out, NB193_202.out, NB202_193.out, (by repeat (first | (with_reducible first | exact HB.out | apply ybA | apply ybN | apply ybD | refine ybS ?_ GE191.out | refine ybS ?_ GE192.out | refine ybS ?_ GE193.out | refine ybS ?_ GE202.out) | exact HB.out))⟩)
        ·skip
         refine box_step ?hg (N := 13) ?hd (cs := #[.int .i64 0, .slice none 0 0]) (t := 52) ?hr ?_; (case hd => rfl); (case hg => rfl); (case hr => first | (go_simp; done) | (go_simp; rfl))
         intro gb201 hg w520 hbox hb
         have n0_ := yaM (yrB HO197.out hb)
         have n1_ := yaM (ykB (g := gb188) (o := .cells #[.int .i64 a0_0, .slice A0_1 l0_1.length c0_1] 52 (0, 0)) BK188.out hb)
         have n2_ := yaM (ykB (g := gb189) (o := .cells #[.slice A2_0 l2_0.length c2_0] 29 (0, 0)) BK189.out hb)
         have n3_ := yaM (ykB (g := gb190) (o := .cells #[.int .i64 a3_0, .int .i64 a3_1] 32 (0, 0)) BK190.out hb)
         have n4_ := yaM (ykB (g := gb191) (o := .cells #[.int .i64 0, .slice none 0 0] 52 (0, 0)) BK191.out hb)
         have n5_ := yaM (ykB (g := gb192) (o := .cells #[.slice none 0 0] 29 (0, 0)) BK192.out hb)
         have n6_ := yaM (ykB (g := gb193) (o := .cells #[.int .i64 0, .int .i64 0, .int .i64 0, .int .i64 0] 60 (0, 0)) BK193.out hb)
         have n7_ := yaM (ykB (g := gb202) (o := .cells #[.slice none 0 0] 29 (0, 0)) BK202.out hb)
         have n8_ := yaM (ybT (by repeat (first | (with_reducible first | exact HB.out | apply ybA | apply ybN | apply ybD | refine ybS ?_ GE191.out | refine ybS ?_ GE192.out | refine ybS ?_ GE193.out | refine ybS ?_ GE202.out) | exact HB.out)) hb)
         have n9_ := yaM (hbox)
         have n10_ := yaM ((by rw [hg]; exact (ybZ (by repeat (first | (with_reducible first | exact HB.out | apply ybA | apply ybN | apply ybD | refine ybS ?_ GE191.out | refine ybS ?_ GE192.out | refine ybS ?_ GE193.out | refine ybS ?_ GE202.out) | exact HB.out))) : w.heap.size ≤ gb201))
         have n11_ := yaM ((by rw [hg]; exact (ybZ (by repeat (first | (with_reducible first | exact HB.out | apply ybA | apply ybN | apply ybD | refine ybS ?_ GE191.out | refine ybS ?_ GE192.out | refine ybS ?_ GE193.out | refine ybS ?_ GE202.out) | exact HB.out))) : w.heap.size ≤ gb201))
         have n12_ := yaM ((by rw [hg]; exact Nat.ne_of_lt (ykL (g := gb188) (o := .cells #[.int .i64 a0_0, .slice A0_1 l0_1.length c0_1] 52 (0, 0)) BK188.out) : gb188 ≠ gb201))
         have n13_ := yaM ((by rw [hg]; exact Nat.ne_of_gt (ykL (g := gb188) (o := .cells #[.int .i64 a0_0, .slice A0_1 l0_1.length c0_1] 52 (0, 0)) BK188.out) : gb201 ≠ gb188))
         have n14_ := yaM ((by rw [hg]; exact Nat.ne_of_lt (ykL (g := gb189) (o := .cells #[.slice A2_0 l2_0.length c2_0] 29 (0, 0)) BK189.out) : gb189 ≠ gb201))
         have n15_ := yaM ((by rw [hg]; exact Nat.ne_of_gt (ykL (g := gb189) (o := .cells #[.slice A2_0 l2_0.length c2_0] 29 (0, 0)) BK189.out) : gb201 ≠ gb189))
         have n16_ := yaM ((by rw [hg]; exact Nat.ne_of_lt (ykL (g := gb190) (o := .cells #[.int .i64 a3_0, .int .i64 a3_1] 32 (0, 0)) BK190.out) : gb190 ≠ gb201))
         have n17_ := yaM ((by rw [hg]; exact Nat.ne_of_gt (ykL (g := gb190) (o := .cells #[.int .i64 a3_0, .int .i64 a3_1] 32 (0, 0)) BK190.out) : gb201 ≠ gb190))
         have n18_ := yaM ((by rw [hg]; exact Nat.ne_of_lt (ykL (g := gb191) (o := .cells #[.int .i64 0, .slice none 0 0] 52 (0, 0)) BK191.out) : gb191 ≠ gb201))
         have n19_ := yaM ((by rw [hg]; exact Nat.ne_of_gt (ykL (g := gb191) (o := .cells #[.int .i64 0, .slice none 0 0] 52 (0, 0)) BK191.out) : gb201 ≠ gb191))
         have n20_ := yaM ((by rw [hg]; exact Nat.ne_of_lt (ykL (g := gb192) (o := .cells #[.slice none 0 0] 29 (0, 0)) BK192.out) : gb192 ≠ gb201))
         have n21_ := yaM ((by rw [hg]; exact Nat.ne_of_gt (ykL (g := gb192) (o := .cells #[.slice none 0 0] 29 (0, 0)) BK192.out) : gb201 ≠ gb192))
         have n22_ := yaM ((by rw [hg]; exact Nat.ne_of_lt (ykL (g := gb193) (o := .cells #[.int .i64 0, .int .i64 0, .int .i64 0, .int .i64 0] 60 (0, 0)) BK193.out) : gb193 ≠ gb201))
         have n23_ := yaM ((by rw [hg]; exact Nat.ne_of_gt (ykL (g := gb193) (o := .cells #[.int .i64 0, .int .i64 0, .int .i64 0, .int .i64 0] 60 (0, 0)) BK193.out) : gb201 ≠ gb193))
         have n24_ := yaM ((by rw [hg]; exact Nat.ne_of_lt (ykL (g := gb202) (o := .cells #[.slice none 0 0] 29 (0, 0)) BK202.out) : gb202 ≠ gb201))
         have n25_ := yaM ((by rw [hg]; exact Nat.ne_of_gt (ykL (g := gb202) (o := .cells #[.slice none 0 0] 29 (0, 0)) BK202.out) : gb201 ≠ gb202))
         clear HO197
         clear BK188
         clear BK189
         clear BK190
         clear BK191
         clear BK192
         clear BK193
         clear BK202
         clear HB
         have HO197 := n0_
         have BK188 := n1_
         have BK189 := n2_
         have BK190 := n3_
         have BK191 := n4_
         have BK192 := n5_
         have BK193 := n6_
         have BK202 := n7_
         have HB := n8_
         have BK201 := n9_
         have GW201 := n10_
         have GE201 := n11_
         have NB188_201 := n12_
         have NB201_188 := n13_
         have NB189_201 := n14_
         have NB201_189 := n15_
         have NB190_201 := n16_
         have NB201_190 := n17_
         have NB191_201 := n18_
         have NB201_191 := n19_
         have NB192_201 := n20_
         have NB201_192 := n21_
         have NB193_201 := n22_
         have NB201_193 := n23_
         have NB202_201 := n24_
         have NB201_202 := n25_
         clear n0_ n1_ n2_ n3_ n4_ n5_ n6_ n7_ n8_ n9_ n10_ n11_ n12_ n13_ n14_ n15_ n16_ n17_ n18_ n19_ n20_ n21_ n22_ n23_ n24_ n25_
         clear hb hbox hg
         refine hK.out _ _ ⟨(ykC BK188.out 0).trans rfl, (ykC BK188.out 1).trans rfl, (ykC BK189.out 0).trans rfl⟩ (fun hHeld => ?_)
         clear hK K
         refine norm_ (a' := ?_) ?_ ?_
         rotate_left
         ·show Act.put _ (some 13) _ = _
          simp only [Act.put, ylA, ylZ, ylS, i64_w, i32_w]
          rfl
         exact norm_ (by first | (simp only [putAll, Act.put, ylA, ylZ, ylS]; done) | (simp only [putAll, Act.put, ylA, ylZ, ylS]; rfl)) (hJ1_4_5 (v196, gb201, gb202) _ ⟨hHeld, HO197.out, BK188.out, BK189.out, BK190.out, BK191.out, BK192.out, BK193.out, BK201.out, BK202.out, GW201.out, GE201.out, NB188_201.out, NB201_188.out, NB189_201.out, NB201_189.out, NB190_201.out, NB201_190.out, NB191_201.out, NB201_191.out, NB192_201.out, NB201_192.out, NB193_201.out, NB201_193.out, NB202_201.out, NB201_202.out, GW202.out, GE202.out, NB188_202.out, NB202_188.out, NB189_202.out, NB202_189.out, NB190_202.out, NB202_190.out, NB191_202.out, NB202_191.out, NB192_202.out, NB202_192.out, NB193_202.out, NB202_193.out, (by repeat (first | (with_reducible first | exact HB.out | apply ybA | apply ybN | apply ybD | refine ybS ?_ GE191.out | refine ybS ?_ GE192.out | refine ybS ?_ GE193.out | refine ybS ?_ GE202.out | refine ybS ?_ GE201.out) | exact HB.out))⟩)
      ·skip
       rintro ⟨v196, gb201⟩ w519 ⟨hS_, h0_, h1_, h2_, h3_, h4_, h5_, h6_, h7_, h8_, h9_, h10_, h11_, h12_, h13_, h14_, h15_, h16_, h17_, h18_, h19_, h20_, h21_, h22_⟩
       have n0_ : Aside0 (Kd.R (Kd.int .i64) 3 w519 w.heap.size (fun _ => True) v196 t195) := ⟨h0_⟩
       have n1_ : Aside0 (w519.heap[gb188]? = some (.cells #[.int .i64 a0_0, .slice A0_1 l0_1.length c0_1] 52 (0, 0))) := ⟨h1_⟩
       have n2_ : Aside0 (w519.heap[gb189]? = some (.cells #[.slice A2_0 l2_0.length c2_0] 29 (0, 0))) := ⟨h2_⟩
       have n3_ : Aside0 (w519.heap[gb190]? = some (.cells #[.int .i64 a3_0, .int .i64 a3_1] 32 (0, 0))) := ⟨h3_⟩
       have n4_ : Aside0 (w519.heap[gb191]? = some (.cells #[.int .i64 0, .slice none 0 0] 52 (0, 0))) := ⟨h4_⟩
       have n5_ : Aside0 (w519.heap[gb192]? = some (.cells #[.slice none 0 0] 29 (0, 0))) := ⟨h5_⟩
       have n6_ : Aside0 (w519.heap[gb193]? = some (.cells #[.int .i64 0, .int .i64 0, .int .i64 0, .int .i64 0] 60 (0, 0))) := ⟨h6_⟩
       have n7_ : Aside0 (w519.heap[gb201]? = some (.cells #[.int .i64 0, .slice none 0 0] 52 (0, 0))) := ⟨h7_⟩
       have n8_ : Aside0 (w.heap.size ≤ gb201) := ⟨h8_⟩
       have n9_ : Aside0 (w.heap.size ≤ gb201) := ⟨h9_⟩
       have n10_ : Aside0 (gb188 ≠ gb201) := ⟨h10_⟩
       have n11_ : Aside0 (gb201 ≠ gb188) := ⟨h11_⟩
       have n12_ : Aside0 (gb189 ≠ gb201) := ⟨h12_⟩
       have n13_ : Aside0 (gb201 ≠ gb189) := ⟨h13_⟩
       have n14_ : Aside0 (gb190 ≠ gb201) := ⟨h14_⟩
       have n15_ : Aside0 (gb201 ≠ gb190) := ⟨h15_⟩
       have n16_ : Aside0 (gb191 ≠ gb201) := ⟨h16_⟩
       have n17_ : Aside0 (gb201 ≠ gb191) := ⟨h17_⟩
       have n18_ : Aside0 (gb192 ≠ gb201) := ⟨h18_⟩
       have n19_ : Aside0 (gb201 ≠ gb192) := ⟨h19_⟩
       have n20_ : Aside0 (gb193 ≠ gb201) := ⟨h20_⟩
       have n21_ : Aside0 (gb201 ≠ gb193) := ⟨h21_⟩
       have n22_ : Aside0 (Below w.heap.size w w519) := ⟨h22_⟩
       clear BK188
       clear BK189
       clear BK190
       clear BK191
       clear BK192
       clear BK193
       clear HB
       clear h0_ h1_ h2_ h3_ h4_ h5_ h6_ h7_ h8_ h9_ h10_ h11_ h12_ h13_ h14_ h15_ h16_ h17_ h18_ h19_ h20_ h21_ h22_
       have HO197 := n0_
       have BK188 := n1_
       have BK189 := n2_
       have BK190 := n3_
       have BK191 := n4_
       have BK192 := n5_
       have BK193 := n6_
       have BK201 := n7_
       have GW201 := n8_
       have GE201 := n9_
       have NB188_201 := n10_
       have NB201_188 := n11_
       have NB189_201 := n12_
       have NB201_189 := n13_
       have NB190_201 := n14_
       have NB201_190 := n15_
       have NB191_201 := n16_
       have NB201_191 := n17_
       have NB192_201 := n18_
       have NB201_192 := n19_
       have NB193_201 := n20_
       have NB201_193 := n21_
       have HB := n22_
       clear n0_ n1_ n2_ n3_ n4_ n5_ n6_ n7_ n8_ n9_ n10_ n11_ n12_ n13_ n14_ n15_ n16_ n17_ n18_ n19_ n20_ n21_ n22_
       have hHeld : w519.cell? ⟨gb188, 0, none⟩ = some (.int .i64 a0_0) ∧ w519.cell? ⟨gb188, 1, none⟩ = some (.slice A0_1 l0_1.length c0_1) ∧ w519.cell? ⟨gb189, 0, none⟩ = some (.slice A2_0 l2_0.length c2_0) := hS_
       refine norm_ (a' := ?_) ?_ ?_
       rotate_left
       ·simp only [putAll, Act.put, ylA, ylZ, ylS]
        rfl
       refine two_ (i := 3) (j := 5) (Ni := some 22) (Nj := some 14) #[true, true, true, true, true, false, false, false] #[true, true, true, false, true, true, false, false] rfl rfl rfl rfl (two_of HT_.out (by kernel_rfl)) (by decide) (by decide) (fun K hK => ?_) (fun K hK => ?_)
       ·skip
        refine goes_ Try.func55 (by kernel_rfl) rfl #[.agg #[.slice A2_0 l2_0.length c2_0]] (by rfl) rfl rfl (by (try simp only [List.map_toArray, List.map_cons, List.map_nil]); first | done | rfl | (simp only [List.length_drop, List.length_take]; rfl)) ?_
        with_reducible refine (impl_copyArena.calls _ _ l2_0 t198 _ ?side1 ?side2 A7.out).mono ?_
        (case side1 => repeat (first | exact (Kd.C_below HR2_0.out HB.out) | (with_reducible refine Kd.C_alloc ?_ _) | (with_reducible refine Kd.C_drewN ?_ _) | (with_reducible refine Kd.C_drew ?_)))
        (case side2 => exact HC2_0.out)
        rintro e w520 ⟨v199, rfl, ho0, hb⟩
        refine ⟨_, rfl, ?_⟩
        have n0_ := yaM (Kd.R_elder' HO197.out (Kd.R_base ho0) hb)
        have n1_ := yaM (Kd.R_lower (Kd.R_new' ho0 (yrL HO197.out)) (ybZ (by repeat (first | (with_reducible first | exact HB.out | apply ybA | apply ybN | apply ybD | refine ybS ?_ GE191.out | refine ybS ?_ GE192.out | refine ybS ?_ GE193.out | refine ybS ?_ GE201.out) | exact HB.out))))
        have n2_ := yaM (ykB (g := gb188) (o := .cells #[.int .i64 a0_0, .slice A0_1 l0_1.length c0_1] 52 (0, 0)) BK188.out hb)
        have n3_ := yaM (ykB (g := gb189) (o := .cells #[.slice A2_0 l2_0.length c2_0] 29 (0, 0)) BK189.out hb)
        have n4_ := yaM (ykB (g := gb190) (o := .cells #[.int .i64 a3_0, .int .i64 a3_1] 32 (0, 0)) BK190.out hb)
        have n5_ := yaM (ykB (g := gb191) (o := .cells #[.int .i64 0, .slice none 0 0] 52 (0, 0)) BK191.out hb)
        have n6_ := yaM (ykB (g := gb192) (o := .cells #[.slice none 0 0] 29 (0, 0)) BK192.out hb)
        have n7_ := yaM (ykB (g := gb193) (o := .cells #[.int .i64 0, .int .i64 0, .int .i64 0, .int .i64 0] 60 (0, 0)) BK193.out hb)
        have n8_ := yaM (ykB (g := gb201) (o := .cells #[.int .i64 0, .slice none 0 0] 52 (0, 0)) BK201.out hb)
        have n9_ := yaM (ybT (by repeat (first | (with_reducible first | exact HB.out | apply ybA | apply ybN | apply ybD | refine ybS ?_ GE191.out | refine ybS ?_ GE192.out | refine ybS ?_ GE193.out | refine ybS ?_ GE201.out) | exact HB.out)) hb)
        clear HO197
        clear BK188
        clear BK189
        clear BK190
        clear BK191
        clear BK192
        clear BK193
        clear BK201
        clear HB
        have HO197 := n0_
        have HO200 := n1_
        have BK188 := n2_
        have BK189 := n3_
        have BK190 := n4_
        have BK191 := n5_
        have BK192 := n6_
        have BK193 := n7_
        have BK201 := n8_
        have HB := n9_
        clear n0_ n1_ n2_ n3_ n4_ n5_ n6_ n7_ n8_ n9_
        (try clear hb)
        (try clear hb2)
        (try clear hk)
        (try clear hi)
        (try clear ho0)
        refine hK.out _ _ ⟨(ykC BK188.out 0).trans rfl, (ykC BK188.out 1).trans rfl, (ykC BK189.out 0).trans rfl⟩ (fun hHeld => ?_)
        clear hK K
        refine norm_ (a' := ?_) ?_ ?_
        rotate_left
        ·show Act.put _ (some 22) _ = _
         simp only [Act.put, ylA, ylZ, ylS, i64_w, i32_w]
         rfl
        exact norm_ (by first | (simp only [putAll, Act.put, ylA, ylZ, ylS]; done) | (simp only [putAll, Act.put, ylA, ylZ, ylS]; rfl)) (hJ1_3_4 (v196, v199, gb201) _ ⟨hHeld, (by (with_reducible repeat (first | apply yrA | apply yrN | apply yrD)); exact yrM HO197.out (fun _ hk => hk.2)), (by (with_reducible repeat (first | apply yrA | apply yrN | apply yrD)); exact yrM HO200.out (fun _ hk => hk.2)), BK188.out, BK189.out, BK190.out, BK191.out, BK192.out, BK193.out, BK201.out, GW201.out, GE201.out, NB188_201.out, NB201_188.out, NB189_201.out, NB201_189.out, NB190_201.out, NB201_190.out, NB191_201.out, NB201_191.out, NB192_201.out, NB201_192.out, NB193_201.out, NB201_193.out, (by repeat (first | (with_reducible first | exact HB.out | apply ybA | apply ybN | apply ybD | refine ybS ?_ GE191.out | refine ybS ?_ GE192.out | refine ybS ?_ GE193.out | refine ybS ?_ GE201.out) | exact HB.out))⟩)
       ·skip
        refine box_step ?hg (N := 14) ?hd (cs := #[.slice none 0 0]) (t := 29) ?hr ?_; (case hd => rfl); (case hg => rfl); (case hr => first | (go_simp; done) | (go_simp; rfl))
        intro gb202 hg w520 hbox hb
        have n0_ := yaM (yrB HO197.out hb)
        have n1_ := yaM (ykB (g := gb188) (o := .cells #[.int .i64 a0_0, .slice A0_1 l0_1.length c0_1] 52 (0, 0)) BK188.out hb)
        have n2_ := yaM (ykB (g := gb189) (o := .cells #[.slice A2_0 l2_0.length c2_0] 29 (0, 0)) BK189.out hb)
        have n3_ := yaM (ykB (g := gb190) (o := .cells #[.int .i64 a3_0, .int .i64 a3_1] 32 (0, 0)) BK190.out hb)
        have n4_ := yaM (ykB (g := gb191) (o := .cells #[.int .i64 0, .slice none 0 0] 52 (0, 0)) BK191.out hb)
        have n5_ := yaM (ykB (g := gb192) (o := .cells #[.slice none 0 0] 29 (0, 0)) BK192.out hb)
        have n6_ := yaM (ykB (g := gb193) (o := .cells #[.int .i64 0, .int .i64 0, .int .i64 0, .int .i64 0] 60 (0, 0)) BK193.out hb)
        have n7_ := yaM (ykB (g := gb201) (o := .cells #[.int .i64 0, .slice none 0 0] 52 (0, 0)) BK201.out hb)
        have n8_ := yaM (ybT (by repeat (first | (with_reducible first | exact HB.out | apply ybA | apply ybN | apply ybD | refine ybS ?_ GE191.out | refine ybS ?_ GE192.out | refine ybS ?_ GE193.out | refine ybS ?_ GE201.out) | exact HB.out)) hb)
        have n9_ := yaM (hbox)
        have n10_ := yaM ((by rw [hg]; exact (ybZ (by repeat (first | (with_reducible first | exact HB.out | apply ybA | apply ybN | apply ybD | refine ybS ?_ GE191.out | refine ybS ?_ GE192.out | refine ybS ?_ GE193.out | refine ybS ?_ GE201.out) | exact HB.out))) : w.heap.size ≤ gb202))
        have n11_ := yaM ((by rw [hg]; exact (ybZ (by repeat (first | (with_reducible first | exact HB.out | apply ybA | apply ybN | apply ybD | refine ybS ?_ GE191.out | refine ybS ?_ GE192.out | refine ybS ?_ GE193.out | refine ybS ?_ GE201.out) | exact HB.out))) : w.heap.size ≤ gb202))
        have n12_ := yaM ((by rw [hg]; exact Nat.ne_of_lt (ykL (g := gb188) (o := .cells #[.int .i64 a0_0, .slice A0_1 l0_1.length c0_1] 52 (0, 0)) BK188.out) : gb188 ≠ gb202))
        have n13_ := yaM ((by rw [hg]; exact Nat.ne_of_gt (ykL (g := gb188) (o := .cells #[.int .i64 a0_0, .slice A0_1 l0_1.length c0_1] 52 (0, 0)) BK188.out) : gb202 ≠ gb188))
        have n14_ := yaM ((by rw [hg]; exact Nat.ne_of_lt (ykL (g := gb189) (o := .cells #[.slice A2_0 l2_0.length c2_0] 29 (0, 0)) BK189.out) : gb189 ≠ gb202))
        have n15_ := yaM ((by rw [hg]; exact Nat.ne_of_gt (ykL (g := gb189) (o := .cells #[.slice A2_0 l2_0.length c2_0] 29 (0, 0)) BK189.out) : gb202 ≠ gb189))
        have n16_ := yaM ((by rw [hg]; exact Nat.ne_of_lt (ykL (g := gb190) (o := .cells #[.int .i64 a3_0, .int .i64 a3_1] 32 (0, 0)) BK190.out) : gb190 ≠ gb202))
        have n17_ := yaM ((by rw [hg]; exact Nat.ne_of_gt (ykL (g := gb190) (o := .cells #[.int .i64 a3_0, .int .i64 a3_1] 32 (0, 0)) BK190.out) : gb202 ≠ gb190))
        have n18_ := yaM ((by rw [hg]; exact Nat.ne_of_lt (ykL (g := gb191) (o := .cells #[.int .i64 0, .slice none 0 0] 52 (0, 0)) BK191.out) : gb191 ≠ gb202))
        have n19_ := yaM ((by rw [hg]; exact Nat.ne_of_gt (ykL (g := gb191) (o := .cells #[.int .i64 0, .slice none 0 0] 52 (0, 0)) BK191.out) : gb202 ≠ gb191))
        have n20_ := yaM ((by rw [hg]; exact Nat.ne_of_lt (ykL (g := gb192) (o := .cells #[.slice none 0 0] 29 (0, 0)) BK192.out) : gb192 ≠ gb202))
        have n21_ := yaM ((by rw [hg]; exact Nat.ne_of_gt (ykL (g := gb192) (o := .cells #[.slice none 0 0] 29 (0, 0)) BK192.out) : gb202 ≠ gb192))
        have n22_ := yaM ((by rw [hg]; exact Nat.ne_of_lt (ykL (g := gb193) (o := .cells #[.int .i64 0, .int .i64 0, .int .i64 0, .int .i64 0] 60 (0, 0)) BK193.out) : gb193 ≠ gb202))
        have n23_ := yaM ((by rw [hg]; exact Nat.ne_of_gt (ykL (g := gb193) (o := .cells #[.int .i64 0, .int .i64 0, .int .i64 0, .int .i64 0] 60 (0, 0)) BK193.out) : gb202 ≠ gb193))
        have n24_ := yaM ((by rw [hg]; exact Nat.ne_of_lt (ykL (g := gb201) (o := .cells #[.int .i64 0, .slice none 0 0] 52 (0, 0)) BK201.out) : gb201 ≠ gb202))
        have n25_ := yaM ((by rw [hg]; exact Nat.ne_of_gt (ykL (g := gb201) (o := .cells #[.int .i64 0, .slice none 0 0] 52 (0, 0)) BK201.out) : gb202 ≠ gb201))
        clear HO197
        clear BK188
        clear BK189
        clear BK190
        clear BK191
        clear BK192
        clear BK193
        clear BK201
        clear HB
        have HO197 := n0_
        have BK188 := n1_
        have BK189 := n2_
        have BK190 := n3_
        have BK191 := n4_
        have BK192 := n5_
        have BK193 := n6_
        have BK201 := n7_
        have HB := n8_
        have BK202 := n9_
        have GW202 := n10_
        have GE202 := n11_
        have NB188_202 := n12_
        have NB202_188 := n13_
        have NB189_202 := n14_
        have NB202_189 := n15_
        have NB190_202 := n16_
        have NB202_190 := n17_
        have NB191_202 := n18_
        have NB202_191 := n19_
        have NB192_202 := n20_
        have NB202_192 := n21_
        have NB193_202 := n22_
        have NB202_193 := n23_
        have NB201_202 := n24_
        have NB202_201 := n25_
        clear n0_ n1_ n2_ n3_ n4_ n5_ n6_ n7_ n8_ n9_ n10_ n11_ n12_ n13_ n14_ n15_ n16_ n17_ n18_ n19_ n20_ n21_ n22_ n23_ n24_ n25_
        clear hb hbox hg
        refine hK.out _ _ ⟨(ykC BK188.out 0).trans rfl, (ykC BK188.out 1).trans rfl, (ykC BK189.out 0).trans rfl⟩ (fun hHeld => ?_)
        clear hK K
        refine norm_ (a' := ?_) ?_ ?_
        rotate_left
        ·show Act.put _ (some 14) _ = _
         simp only [Act.put, ylA, ylZ, ylS, i64_w, i32_w]
         rfl
        exact norm_ (by first | (simp only [putAll, Act.put, ylA, ylZ, ylS]; done) | (simp only [putAll, Act.put, ylA, ylZ, ylS]; rfl)) (hJ1_4_5 (v196, gb201, gb202) _ ⟨hHeld, HO197.out, BK188.out, BK189.out, BK190.out, BK191.out, BK192.out, BK193.out, BK201.out, BK202.out, GW201.out, GE201.out, NB188_201.out, NB201_188.out, NB189_201.out, NB201_189.out, NB190_201.out, NB201_190.out, NB191_201.out, NB201_191.out, NB192_201.out, NB201_192.out, NB193_201.out, NB201_193.out, NB202_201.out, NB201_202.out, GW202.out, GE202.out, NB188_202.out, NB202_188.out, NB189_202.out, NB202_189.out, NB190_202.out, NB202_190.out, NB191_202.out, NB202_191.out, NB192_202.out, NB202_192.out, NB193_202.out, NB202_193.out, (by repeat (first | (with_reducible first | exact HB.out | apply ybA | apply ybN | apply ybD | refine ybS ?_ GE191.out | refine ybS ?_ GE192.out | refine ybS ?_ GE193.out | refine ybS ?_ GE201.out | refine ybS ?_ GE202.out) | exact HB.out))⟩)
     ·skip
      rintro ⟨v196, v199⟩ w519 ⟨hS_, h0_, h1_, h2_, h3_, h4_, h5_, h6_, h7_, h8_⟩
      have n0_ : Aside0 (Kd.R (Kd.int .i64) 3 w519 w.heap.size (fun k_ => some k_ ≠ (v199 : Value).ownBlock) v196 t195) := ⟨h0_⟩
      have n1_ : Aside0 (Kd.R (Kd.int .i64) 3 w519 w.heap.size (fun k_ => some k_ ≠ (v196 : Value).ownBlock) v199 t198) := ⟨h1_⟩
      have n2_ : Aside0 (w519.heap[gb188]? = some (.cells #[.int .i64 a0_0, .slice A0_1 l0_1.length c0_1] 52 (0, 0))) := ⟨h2_⟩
      have n3_ : Aside0 (w519.heap[gb189]? = some (.cells #[.slice A2_0 l2_0.length c2_0] 29 (0, 0))) := ⟨h3_⟩
      have n4_ : Aside0 (w519.heap[gb190]? = some (.cells #[.int .i64 a3_0, .int .i64 a3_1] 32 (0, 0))) := ⟨h4_⟩
      have n5_ : Aside0 (w519.heap[gb191]? = some (.cells #[.int .i64 0, .slice none 0 0] 52 (0, 0))) := ⟨h5_⟩
      have n6_ : Aside0 (w519.heap[gb192]? = some (.cells #[.slice none 0 0] 29 (0, 0))) := ⟨h6_⟩
      have n7_ : Aside0 (w519.heap[gb193]? = some (.cells #[.int .i64 0, .int .i64 0, .int .i64 0, .int .i64 0] 60 (0, 0))) := ⟨h7_⟩
      have n8_ : Aside0 (Below w.heap.size w w519) := ⟨h8_⟩
      clear BK188
      clear BK189
      clear BK190
      clear BK191
      clear BK192
      clear BK193
      clear HB
      clear h0_ h1_ h2_ h3_ h4_ h5_ h6_ h7_ h8_
      have HO197 := n0_
      have HO200 := n1_
      have BK188 := n2_
      have BK189 := n3_
      have BK190 := n4_
      have BK191 := n5_
      have BK192 := n6_
      have BK193 := n7_
      have HB := n8_
      clear n0_ n1_ n2_ n3_ n4_ n5_ n6_ n7_ n8_
      have hHeld : w519.cell? ⟨gb188, 0, none⟩ = some (.int .i64 a0_0) ∧ w519.cell? ⟨gb188, 1, none⟩ = some (.slice A0_1 l0_1.length c0_1) ∧ w519.cell? ⟨gb189, 0, none⟩ = some (.slice A2_0 l2_0.length c2_0) := hS_
      refine norm_ (a' := ?_) ?_ ?_
      rotate_left
      ·simp only [putAll, Act.put, ylA, ylZ, ylS]
       rfl
      refine two_ (i := 4) (j := 5) (Ni := some 13) (Nj := some 14) #[true, true, true, true, true, false, false, false] #[true, true, true, true, false, true, false, false] rfl rfl rfl rfl (two_of HT_.out (by kernel_rfl)) (by decide) (by decide) (fun K hK => ?_) (fun K hK => ?_)
      ·skip
       refine box_step ?hg (N := 13) ?hd (cs := #[.int .i64 0, .slice none 0 0]) (t := 52) ?hr ?_; (case hd => rfl); (case hg => rfl); (case hr => first | (go_simp; done) | (go_simp; rfl))
       intro gb201 hg w520 hbox hb
       have n0_ := yaM (yrB HO197.out hb)
       have n1_ := yaM (yrB HO200.out hb)
       have n2_ := yaM (ykB (g := gb188) (o := .cells #[.int .i64 a0_0, .slice A0_1 l0_1.length c0_1] 52 (0, 0)) BK188.out hb)
       have n3_ := yaM (ykB (g := gb189) (o := .cells #[.slice A2_0 l2_0.length c2_0] 29 (0, 0)) BK189.out hb)
       have n4_ := yaM (ykB (g := gb190) (o := .cells #[.int .i64 a3_0, .int .i64 a3_1] 32 (0, 0)) BK190.out hb)
       have n5_ := yaM (ykB (g := gb191) (o := .cells #[.int .i64 0, .slice none 0 0] 52 (0, 0)) BK191.out hb)
       have n6_ := yaM (ykB (g := gb192) (o := .cells #[.slice none 0 0] 29 (0, 0)) BK192.out hb)
       have n7_ := yaM (ykB (g := gb193) (o := .cells #[.int .i64 0, .int .i64 0, .int .i64 0, .int .i64 0] 60 (0, 0)) BK193.out hb)
       have n8_ := yaM (ybT (by repeat (first | (with_reducible first | exact HB.out | apply ybA | apply ybN | apply ybD | refine ybS ?_ GE191.out | refine ybS ?_ GE192.out | refine ybS ?_ GE193.out) | exact HB.out)) hb)
       have n9_ := yaM (hbox)
       have n10_ := yaM ((by rw [hg]; exact (ybZ (by repeat (first | (with_reducible first | exact HB.out | apply ybA | apply ybN | apply ybD | refine ybS ?_ GE191.out | refine ybS ?_ GE192.out | refine ybS ?_ GE193.out) | exact HB.out))) : w.heap.size ≤ gb201))
       have n11_ := yaM ((by rw [hg]; exact (ybZ (by repeat (first | (with_reducible first | exact HB.out | apply ybA | apply ybN | apply ybD | refine ybS ?_ GE191.out | refine ybS ?_ GE192.out | refine ybS ?_ GE193.out) | exact HB.out))) : w.heap.size ≤ gb201))
       have n12_ := yaM ((by rw [hg]; exact Nat.ne_of_lt (ykL (g := gb188) (o := .cells #[.int .i64 a0_0, .slice A0_1 l0_1.length c0_1] 52 (0, 0)) BK188.out) : gb188 ≠ gb201))
       have n13_ := yaM ((by rw [hg]; exact Nat.ne_of_gt (ykL (g := gb188) (o := .cells #[.int .i64 a0_0, .slice A0_1 l0_1.length c0_1] 52 (0, 0)) BK188.out) : gb201 ≠ gb188))
       have n14_ := yaM ((by rw [hg]; exact Nat.ne_of_lt (ykL (g := gb189) (o := .cells #[.slice A2_0 l2_0.length c2_0] 29 (0, 0)) BK189.out) : gb189 ≠ gb201))
       have n15_ := yaM ((by rw [hg]; exact Nat.ne_of_gt (ykL (g := gb189) (o := .cells #[.slice A2_0 l2_0.length c2_0] 29 (0, 0)) BK189.out) : gb201 ≠ gb189))
       have n16_ := yaM ((by rw [hg]; exact Nat.ne_of_lt (ykL (g := gb190) (o := .cells #[.int .i64 a3_0, .int .i64 a3_1] 32 (0, 0)) BK190.out) : gb190 ≠ gb201))
       have n17_ := yaM ((by rw [hg]; exact Nat.ne_of_gt (ykL (g := gb190) (o := .cells #[.int .i64 a3_0, .int .i64 a3_1] 32 (0, 0)) BK190.out) : gb201 ≠ gb190))
       have n18_ := yaM ((by rw [hg]; exact Nat.ne_of_lt (ykL (g := gb191) (o := .cells #[.int .i64 0, .slice none 0 0] 52 (0, 0)) BK191.out) : gb191 ≠ gb201))
       have n19_ := yaM ((by rw [hg]; exact Nat.ne_of_gt (ykL (g := gb191) (o := .cells #[.int .i64 0, .slice none 0 0] 52 (0, 0)) BK191.out) : gb201 ≠ gb191))
       have n20_ := yaM ((by rw [hg]; exact Nat.ne_of_lt (ykL (g := gb192) (o := .cells #[.slice none 0 0] 29 (0, 0)) BK192.out) : gb192 ≠ gb201))
       have n21_ := yaM ((by rw [hg]; exact Nat.ne_of_gt (ykL (g := gb192) (o := .cells #[.slice none 0 0] 29 (0, 0)) BK192.out) : gb201 ≠ gb192))
       have n22_ := yaM ((by rw [hg]; exact Nat.ne_of_lt (ykL (g := gb193) (o := .cells #[.int .i64 0, .int .i64 0, .int .i64 0, .int .i64 0] 60 (0, 0)) BK193.out) : gb193 ≠ gb201))
       have n23_ := yaM ((by rw [hg]; exact Nat.ne_of_gt (ykL (g := gb193) (o := .cells #[.int .i64 0, .int .i64 0, .int .i64 0, .int .i64 0] 60 (0, 0)) BK193.out) : gb201 ≠ gb193))
       clear HO197
       clear HO200
       clear BK188
       clear BK189
       clear BK190
       clear BK191
       clear BK192
       clear BK193
       clear HB
       have HO197 := n0_
       have HO200 := n1_
       have BK188 := n2_
       have BK189 := n3_
       have BK190 := n4_
       have BK191 := n5_
       have BK192 := n6_
       have BK193 := n7_
       have HB := n8_
       have BK201 := n9_
       have GW201 := n10_
       have GE201 := n11_
       have NB188_201 := n12_
       have NB201_188 := n13_
       have NB189_201 := n14_
       have NB201_189 := n15_
       have NB190_201 := n16_
       have NB201_190 := n17_
       have NB191_201 := n18_
       have NB201_191 := n19_
       have NB192_201 := n20_
       have NB201_192 := n21_
       have NB193_201 := n22_
       have NB201_193 := n23_
       clear n0_ n1_ n2_ n3_ n4_ n5_ n6_ n7_ n8_ n9_ n10_ n11_ n12_ n13_ n14_ n15_ n16_ n17_ n18_ n19_ n20_ n21_ n22_ n23_
       clear hb hbox hg
       refine hK.out _ _ ⟨(ykC BK188.out 0).trans rfl, (ykC BK188.out 1).trans rfl, (ykC BK189.out 0).trans rfl⟩ (fun hHeld => ?_)
       clear hK K
       refine norm_ (a' := ?_) ?_ ?_
       rotate_left
       ·show Act.put _ (some 13) _ = _
        simp only [Act.put, ylA, ylZ, ylS, i64_w, i32_w]
        rfl
       exact norm_ (by first | (simp only [putAll, Act.put, ylA, ylZ, ylS]; done) | (simp only [putAll, Act.put, ylA, ylZ, ylS]; rfl)) (hJ1_3_4 (v196, v199, gb201) _ ⟨hHeld, HO197.out, HO200.out, BK188.out, BK189.out, BK190.out, BK191.out, BK192.out, BK193.out, BK201.out, GW201.out, GE201.out, NB188_201.out, NB201_188.out, NB189_201.out, NB201_189.out, NB190_201.out, NB201_190.out, NB191_201.out, NB201_191.out, NB192_201.out, NB201_192.out, NB193_201.out, NB201_193.out, (by repeat (first | (with_reducible first | exact HB.out | apply ybA | apply ybN | apply ybD | refine ybS ?_ GE191.out | refine ybS ?_ GE192.out | refine ybS ?_ GE193.out | refine ybS ?_ GE201.out) | exact HB.out))⟩)
      ·skip
       refine box_step ?hg (N := 14) ?hd (cs := #[.slice none 0 0]) (t := 29) ?hr ?_; (case hd => rfl); (case hg => rfl); (case hr => first | (go_simp; done) | (go_simp; rfl))
       intro gb202 hg w520 hbox hb
       have n0_ := yaM (yrB HO197.out hb)
       have n1_ := yaM (yrB HO200.out hb)
       have n2_ := yaM (ykB (g := gb188) (o := .cells #[.int .i64 a0_0, .slice A0_1 l0_1.length c0_1] 52 (0, 0)) BK188.out hb)
       have n3_ := yaM (ykB (g := gb189) (o := .cells #[.slice A2_0 l2_0.length c2_0] 29 (0, 0)) BK189.out hb)
       have n4_ := yaM (ykB (g := gb190) (o := .cells #[.int .i64 a3_0, .int .i64 a3_1] 32 (0, 0)) BK190.out hb)
       have n5_ := yaM (ykB (g := gb191) (o := .cells #[.int .i64 0, .slice none 0 0] 52 (0, 0)) BK191.out hb)
       have n6_ := yaM (ykB (g := gb192) (o := .cells #[.slice none 0 0] 29 (0, 0)) BK192.out hb)
       have n7_ := yaM (ykB (g := gb193) (o := .cells #[.int .i64 0, .int .i64 0, .int .i64 0, .int .i64 0] 60 (0, 0)) BK193.out hb)
       have n8_ := yaM (ybT (by repeat (first | (with_reducible first | exact HB.out | apply ybA | apply ybN | apply ybD | refine ybS ?_ GE191.out | refine ybS ?_ GE192.out | refine ybS ?_ GE193.out) | exact HB.out)) hb)
       have n9_ := yaM (hbox)
       have n10_ := yaM ((by rw [hg]; exact (ybZ (by repeat (first | (with_reducible first | exact HB.out | apply ybA | apply ybN | apply ybD | refine ybS ?_ GE191.out | refine ybS ?_ GE192.out | refine ybS ?_ GE193.out) | exact HB.out))) : w.heap.size ≤ gb202))
       have n11_ := yaM ((by rw [hg]; exact (ybZ (by repeat (first | (with_reducible first | exact HB.out | apply ybA | apply ybN | apply ybD | refine ybS ?_ GE191.out | refine ybS ?_ GE192.out | refine ybS ?_ GE193.out) | exact HB.out))) : w.heap.size ≤ gb202))
       have n12_ := yaM ((by rw [hg]; exact Nat.ne_of_lt (ykL (g := gb188) (o := .cells #[.int .i64 a0_0, .slice A0_1 l0_1.length c0_1] 52 (0, 0)) BK188.out) : gb188 ≠ gb202))
       have n13_ := yaM ((by rw [hg]; exact Nat.ne_of_gt (ykL (g := gb188) (o := .cells #[.int .i64 a0_0, .slice A0_1 l0_1.length c0_1] 52 (0, 0)) BK188.out) : gb202 ≠ gb188))
       have n14_ := yaM ((by rw [hg]; exact Nat.ne_of_lt (ykL (g := gb189) (o := .cells #[.slice A2_0 l2_0.length c2_0] 29 (0, 0)) BK189.out) : gb189 ≠ gb202))
       have n15_ := yaM ((by rw [hg]; exact Nat.ne_of_gt (ykL (g := gb189) (o := .cells #[.slice A2_0 l2_0.length c2_0] 29 (0, 0)) BK189.out) : gb202 ≠ gb189))
       have n16_ := yaM ((by rw [hg]; exact Nat.ne_of_lt (ykL (g := gb190) (o := .cells #[.int .i64 a3_0, .int .i64 a3_1] 32 (0, 0)) BK190.out) : gb190 ≠ gb202))
       have n17_ := yaM ((by rw [hg]; exact Nat.ne_of_gt (ykL (g := gb190) (o := .cells #[.int .i64 a3_0, .int .i64 a3_1] 32 (0, 0)) BK190.out) : gb202 ≠ gb190))
       have n18_ := yaM ((by rw [hg]; exact Nat.ne_of_lt (ykL (g := gb191) (o := .cells #[.int .i64 0, .slice none 0 0] 52 (0, 0)) BK191.out) : gb191 ≠ gb202))
       have n19_ := yaM ((by rw [hg]; exact Nat.ne_of_gt (ykL (g := gb191) (o := .cells #[.int .i64 0, .slice none 0 0] 52 (0, 0)) BK191.out) : gb202 ≠ gb191))
       have n20_ := yaM ((by rw [hg]; exact Nat.ne_of_lt (ykL (g := gb192) (o := .cells #[.slice none 0 0] 29 (0, 0)) BK192.out) : gb192 ≠ gb202))
       have n21_ := yaM ((by rw [hg]; exact Nat.ne_of_gt (ykL (g := gb192) (o := .cells #[.slice none 0 0] 29 (0, 0)) BK192.out) : gb202 ≠ gb192))
       have n22_ := yaM ((by rw [hg]; exact Nat.ne_of_lt (ykL (g := gb193) (o := .cells #[.int .i64 0, .int .i64 0, .int .i64 0, .int .i64 0] 60 (0, 0)) BK193.out) : gb193 ≠ gb202))
       have n23_ := yaM ((by rw [hg]; exact Nat.ne_of_gt (ykL (g := gb193) (o := .cells #[.int .i64 0, .int .i64 0, .int .i64 0, .int .i64 0] 60 (0, 0)) BK193.out) : gb202 ≠ gb193))
       clear HO197
       clear HO200
       clear BK188
       clear BK189
       clear BK190
       clear BK191
       clear BK192
       clear BK193
       clear HB
       have HO197 := n0_
       have HO200 := n1_
       have BK188 := n2_
       have BK189 := n3_
       have BK190 := n4_
       have BK191 := n5_
       have BK192 := n6_
       have BK193 := n7_
       have HB := n8_
       have BK202 := n9_
       have GW202 := n10_
       have GE202 := n11_
       have NB188_202 := n12_
       have NB202_188 := n13_
       have NB189_202 := n14_
       have NB202_189 := n15_
       have NB190_202 := n16_
       have NB202_190 := n17_
       have NB191_202 := n18_
       have NB202_191 := n19_
       have NB192_202 := n20_
       have NB202_192 := n21_
       have NB193_202 := n22_
       have NB202_193 := n23_
       clear n0_ n1_ n2_ n3_ n4_ n5_ n6_ n7_ n8_ n9_ n10_ n11_ n12_ n13_ n14_ n15_ n16_ n17_ n18_ n19_ n20_ n21_ n22_ n23_
       clear hb hbox hg
       refine hK.out _ _ ⟨(ykC BK188.out 0).trans rfl, (ykC BK188.out 1).trans rfl, (ykC BK189.out 0).trans rfl⟩ (fun hHeld => ?_)
       clear hK K
       refine norm_ (a' := ?_) ?_ ?_
       rotate_left
       ·show Act.put _ (some 14) _ = _
        simp only [Act.put, ylA, ylZ, ylS, i64_w, i32_w]
        rfl
       exact norm_ (by first | (simp only [putAll, Act.put, ylA, ylZ, ylS]; done) | (simp only [putAll, Act.put, ylA, ylZ, ylS]; rfl)) (hJ1_3_5 (v196, v199, gb202) _ ⟨hHeld, HO197.out, HO200.out, BK188.out, BK189.out, BK190.out, BK191.out, BK192.out, BK193.out, BK202.out, GW202.out, GE202.out, NB188_202.out, NB202_188.out, NB189_202.out, NB202_189.out, NB190_202.out, NB202_190.out, NB191_202.out, NB202_191.out, NB192_202.out, NB202_192.out, NB193_202.out, NB202_193.out, (by repeat (first | (with_reducible first | exact HB.out | apply ybA | apply ybN | apply ybD | refine ybS ?_ GE191.out | refine ybS ?_ GE192.out | refine ybS ?_ GE193.out | refine ybS ?_ GE202.out) | exact HB.out))⟩)
    ·skip
     rintro ⟨v196, gb201, gb202⟩ w520 ⟨hS_, h0_, h1_, h2_, h3_, h4_, h5_, h6_, h7_, h8_, h9_, h10_, h11_, h12_, h13_, h14_, h15_, h16_, h17_, h18_, h19_, h20_, h21_, h22_, h23_, h24_, h25_, h26_, h27_, h28_, h29_, h30_, h31_, h32_, h33_, h34_, h35_, h36_, h37_, h38_, h39_⟩
     have n0_ : Aside0 (Kd.R (Kd.int .i64) 3 w520 w.heap.size (fun _ => True) v196 t195) := ⟨h0_⟩
     have n1_ : Aside0 (w520.heap[gb188]? = some (.cells #[.int .i64 a0_0, .slice A0_1 l0_1.length c0_1] 52 (0, 0))) := ⟨h1_⟩
     have n2_ : Aside0 (w520.heap[gb189]? = some (.cells #[.slice A2_0 l2_0.length c2_0] 29 (0, 0))) := ⟨h2_⟩
     have n3_ : Aside0 (w520.heap[gb190]? = some (.cells #[.int .i64 a3_0, .int .i64 a3_1] 32 (0, 0))) := ⟨h3_⟩
     have n4_ : Aside0 (w520.heap[gb191]? = some (.cells #[.int .i64 0, .slice none 0 0] 52 (0, 0))) := ⟨h4_⟩
     have n5_ : Aside0 (w520.heap[gb192]? = some (.cells #[.slice none 0 0] 29 (0, 0))) := ⟨h5_⟩
     have n6_ : Aside0 (w520.heap[gb193]? = some (.cells #[.int .i64 0, .int .i64 0, .int .i64 0, .int .i64 0] 60 (0, 0))) := ⟨h6_⟩
     have n7_ : Aside0 (w520.heap[gb201]? = some (.cells #[.int .i64 0, .slice none 0 0] 52 (0, 0))) := ⟨h7_⟩
     have n8_ : Aside0 (w520.heap[gb202]? = some (.cells #[.slice none 0 0] 29 (0, 0))) := ⟨h8_⟩
     have n9_ : Aside0 (w.heap.size ≤ gb201) := ⟨h9_⟩
     have n10_ : Aside0 (w.heap.size ≤ gb201) := ⟨h10_⟩
     have n11_ : Aside0 (gb188 ≠ gb201) := ⟨h11_⟩
     have n12_ : Aside0 (gb201 ≠ gb188) := ⟨h12_⟩
     have n13_ : Aside0 (gb189 ≠ gb201) := ⟨h13_⟩
     have n14_ : Aside0 (gb201 ≠ gb189) := ⟨h14_⟩
     have n15_ : Aside0 (gb190 ≠ gb201) := ⟨h15_⟩
     have n16_ : Aside0 (gb201 ≠ gb190) := ⟨h16_⟩
     have n17_ : Aside0 (gb191 ≠ gb201) := ⟨h17_⟩
     have n18_ : Aside0 (gb201 ≠ gb191) := ⟨h18_⟩
     have n19_ : Aside0 (gb192 ≠ gb201) := ⟨h19_⟩
     have n20_ : Aside0 (gb201 ≠ gb192) := ⟨h20_⟩
     have n21_ : Aside0 (gb193 ≠ gb201) := ⟨h21_⟩
     have n22_ : Aside0 (gb201 ≠ gb193) := ⟨h22_⟩
     have n23_ : Aside0 (gb202 ≠ gb201) := ⟨h23_⟩
     have n24_ : Aside0 (gb201 ≠ gb202) := ⟨h24_⟩
     have n25_ : Aside0 (w.heap.size ≤ gb202) := ⟨h25_⟩
     have n26_ : Aside0 (w.heap.size ≤ gb202) := ⟨h26_⟩
     have n27_ : Aside0 (gb188 ≠ gb202) := ⟨h27_⟩
     have n28_ : Aside0 (gb202 ≠ gb188) := ⟨h28_⟩
     have n29_ : Aside0 (gb189 ≠ gb202) := ⟨h29_⟩
     have n30_ : Aside0 (gb202 ≠ gb189) := ⟨h30_⟩
     have n31_ : Aside0 (gb190 ≠ gb202) := ⟨h31_⟩
     have n32_ : Aside0 (gb202 ≠ gb190) := ⟨h32_⟩
     have n33_ : Aside0 (gb191 ≠ gb202) := ⟨h33_⟩
     have n34_ : Aside0 (gb202 ≠ gb191) := ⟨h34_⟩
     have n35_ : Aside0 (gb192 ≠ gb202) := ⟨h35_⟩
     have n36_ : Aside0 (gb202 ≠ gb192) := ⟨h36_⟩
     have n37_ : Aside0 (gb193 ≠ gb202) := ⟨h37_⟩
     have n38_ : Aside0 (gb202 ≠ gb193) := ⟨h38_⟩
     have n39_ : Aside0 (Below w.heap.size w w520) := ⟨h39_⟩
     clear BK188
     clear BK189
     clear BK190
     clear BK191
     clear BK192
     clear BK193
     clear HB
     clear h0_ h1_ h2_ h3_ h4_ h5_ h6_ h7_ h8_ h9_ h10_ h11_ h12_ h13_ h14_ h15_ h16_ h17_ h18_ h19_ h20_ h21_ h22_ h23_ h24_ h25_ h26_ h27_ h28_ h29_ h30_ h31_ h32_ h33_ h34_ h35_ h36_ h37_ h38_ h39_
     have HO197 := n0_
     have BK188 := n1_
     have BK189 := n2_
     have BK190 := n3_
     have BK191 := n4_
     have BK192 := n5_
     have BK193 := n6_
     have BK201 := n7_
     have BK202 := n8_
     have GW201 := n9_
     have GE201 := n10_
     have NB188_201 := n11_
     have NB201_188 := n12_
     have NB189_201 := n13_
     have NB201_189 := n14_
     have NB190_201 := n15_
     have NB201_190 := n16_
     have NB191_201 := n17_
     have NB201_191 := n18_
     have NB192_201 := n19_
     have NB201_192 := n20_
     have NB193_201 := n21_
     have NB201_193 := n22_
     have NB202_201 := n23_
     have NB201_202 := n24_
     have GW202 := n25_
     have GE202 := n26_
     have NB188_202 := n27_
     have NB202_188 := n28_
     have NB189_202 := n29_
     have NB202_189 := n30_
     have NB190_202 := n31_
     have NB202_190 := n32_
     have NB191_202 := n33_
     have NB202_191 := n34_
     have NB192_202 := n35_
     have NB202_192 := n36_
     have NB193_202 := n37_
     have NB202_193 := n38_
     have HB := n39_
     clear n0_ n1_ n2_ n3_ n4_ n5_ n6_ n7_ n8_ n9_ n10_ n11_ n12_ n13_ n14_ n15_ n16_ n17_ n18_ n19_ n20_ n21_ n22_ n23_ n24_ n25_ n26_ n27_ n28_ n29_ n30_ n31_ n32_ n33_ n34_ n35_ n36_ n37_ n38_ n39_
     have hHeld : w520.cell? ⟨gb188, 0, none⟩ = some (.int .i64 a0_0) ∧ w520.cell? ⟨gb188, 1, none⟩ = some (.slice A0_1 l0_1.length c0_1) ∧ w520.cell? ⟨gb189, 0, none⟩ = some (.slice A2_0 l2_0.length c2_0) := hS_
     refine norm_ (a' := ?_) ?_ ?_
     rotate_left
     ·simp only [putAll, Act.put, ylA, ylZ, ylS]
      rfl
     refine one_ (i := 3) (N := some 22) #[true, true, true, true, true, true, false, false] rfl rfl (one_of HT_.out (by kernel_rfl)) (by decide) (fun K hK => ?_)
     refine goes_ Try.func55 (by kernel_rfl) rfl #[.agg #[.slice A2_0 l2_0.length c2_0]] (by rfl) rfl rfl (by (try simp only [List.map_toArray, List.map_cons, List.map_nil]); first | done | rfl | (simp only [List.length_drop, List.length_take]; rfl)) ?_
     with_reducible refine (impl_copyArena.calls _ _ l2_0 t198 _ ?side1 ?side2 A7.out).mono ?_
     (case side1 => repeat (first | exact (Kd.C_below HR2_0.out HB.out) | (with_reducible refine Kd.C_alloc ?_ _) | (with_reducible refine Kd.C_drewN ?_ _) | (with_reducible refine Kd.C_drew ?_)))
     (case side2 => exact HC2_0.out)
     rintro e w521 ⟨v199, rfl, ho0, hb⟩
     refine ⟨_, rfl, ?_⟩
     have n0_ := yaM (Kd.R_elder' HO197.out (Kd.R_base ho0) hb)
     have n1_ := yaM (Kd.R_lower (Kd.R_new' ho0 (yrL HO197.out)) (ybZ (by repeat (first | (with_reducible first | exact HB.out | apply ybA | apply ybN | apply ybD | refine ybS ?_ GE191.out | refine ybS ?_ GE192.out | refine ybS ?_ GE193.out | refine ybS ?_ GE201.out | refine ybS ?_ GE202.out) | exact HB.out))))
     have n2_ := yaM (ykB (g := gb188) (o := .cells #[.int .i64 a0_0, .slice A0_1 l0_1.length c0_1] 52 (0, 0)) BK188.out hb)
     have n3_ := yaM (ykB (g := gb189) (o := .cells #[.slice A2_0 l2_0.length c2_0] 29 (0, 0)) BK189.out hb)
     have n4_ := yaM (ykB (g := gb190) (o := .cells #[.int .i64 a3_0, .int .i64 a3_1] 32 (0, 0)) BK190.out hb)
     have n5_ := yaM (ykB (g := gb191) (o := .cells #[.int .i64 0, .slice none 0 0] 52 (0, 0)) BK191.out hb)
     have n6_ := yaM (ykB (g := gb192) (o := .cells #[.slice none 0 0] 29 (0, 0)) BK192.out hb)
     have n7_ := yaM (ykB (g := gb193) (o := .cells #[.int .i64 0, .int .i64 0, .int .i64 0, .int .i64 0] 60 (0, 0)) BK193.out hb)
     have n8_ := yaM (ykB (g := gb201) (o := .cells #[.int .i64 0, .slice none 0 0] 52 (0, 0)) BK201.out hb)
     have n9_ := yaM (ykB (g := gb202) (o := .cells #[.slice none 0 0] 29 (0, 0)) BK202.out hb)
     have n10_ := yaM (ybT (by repeat (first | (with_reducible first | exact HB.out | apply ybA | apply ybN | apply ybD | refine ybS ?_ GE191.out | refine ybS ?_ GE192.out | refine ybS ?_ GE193.out | refine ybS ?_ GE201.out | refine ybS ?_ GE202.out) | exact HB.out)) hb)
     clear HO197
     clear BK188
     clear BK189
     clear BK190
     clear BK191
     clear BK192
     clear BK193
     clear BK201
     clear BK202
     clear HB
     have HO197 := n0_
     have HO200 := n1_
     have BK188 := n2_
     have BK189 := n3_
     have BK190 := n4_
     have BK191 := n5_
     have BK192 := n6_
     have BK193 := n7_
     have BK201 := n8_
     have BK202 := n9_
     have HB := n10_
     clear n0_ n1_ n2_ n3_ n4_ n5_ n6_ n7_ n8_ n9_ n10_
     (try clear hb)
     (try clear hb2)
     (try clear hk)
     (try clear hi)
     (try clear ho0)
     refine hK.out _ _ ⟨(ykC BK188.out 0).trans rfl, (ykC BK188.out 1).trans rfl, (ykC BK189.out 0).trans rfl⟩ (fun hHeld => ?_)
     clear hK K
     refine norm_ (a' := ?_) ?_ ?_
     rotate_left
     ·show Act.put _ (some 22) _ = _
      simp only [Act.put, ylA, ylZ, ylS, i64_w, i32_w]
      rfl
     exact norm_ (by first | (simp only [putAll, Act.put, ylA, ylZ, ylS]; done) | (simp only [putAll, Act.put, ylA, ylZ, ylS]; rfl)) (hJ1_3_4_5 (v196, v199, gb201, gb202) _ ⟨hHeld, (by (with_reducible repeat (first | apply yrA | apply yrN | apply yrD)); exact yrM HO197.out (fun _ hk => hk.2)), (by (with_reducible repeat (first | apply yrA | apply yrN | apply yrD)); exact yrM HO200.out (fun _ hk => hk.2)), BK188.out, BK189.out, BK190.out, BK191.out, BK192.out, BK193.out, BK201.out, BK202.out, GW201.out, GE201.out, NB188_201.out, NB201_188.out, NB189_201.out, NB201_189.out, NB190_201.out, NB201_190.out, NB191_201.out, NB201_191.out, NB192_201.out, NB201_192.out, NB193_201.out, NB201_193.out, NB202_201.out, NB201_202.out, GW202.out, GE202.out, NB188_202.out, NB202_188.out, NB189_202.out, NB202_189.out, NB190_202.out, NB202_190.out, NB191_202.out, NB202_191.out, NB192_202.out, NB202_192.out, NB193_202.out, NB202_193.out, (by repeat (first | (with_reducible first | exact HB.out | apply ybA | apply ybN | apply ybD | refine ybS ?_ GE191.out | refine ybS ?_ GE192.out | refine ybS ?_ GE193.out | refine ybS ?_ GE201.out | refine ybS ?_ GE202.out) | exact HB.out))⟩)
   ·skip
    rintro ⟨v196, v199, gb202⟩ w520 ⟨hS_, h0_, h1_, h2_, h3_, h4_, h5_, h6_, h7_, h8_, h9_, h10_, h11_, h12_, h13_, h14_, h15_, h16_, h17_, h18_, h19_, h20_, h21_, h22_, h23_⟩
    have n0_ : Aside0 (Kd.R (Kd.int .i64) 3 w520 w.heap.size (fun k_ => some k_ ≠ (v199 : Value).ownBlock) v196 t195) := ⟨h0_⟩
    have n1_ : Aside0 (Kd.R (Kd.int .i64) 3 w520 w.heap.size (fun k_ => some k_ ≠ (v196 : Value).ownBlock) v199 t198) := ⟨h1_⟩
    have n2_ : Aside0 (w520.heap[gb188]? = some (.cells #[.int .i64 a0_0, .slice A0_1 l0_1.length c0_1] 52 (0, 0))) := ⟨h2_⟩
    have n3_ : Aside0 (w520.heap[gb189]? = some (.cells #[.slice A2_0 l2_0.length c2_0] 29 (0, 0))) := ⟨h3_⟩
    have n4_ : Aside0 (w520.heap[gb190]? = some (.cells #[.int .i64 a3_0, .int .i64 a3_1] 32 (0, 0))) := ⟨h4_⟩
    have n5_ : Aside0 (w520.heap[gb191]? = some (.cells #[.int .i64 0, .slice none 0 0] 52 (0, 0))) := ⟨h5_⟩
    have n6_ : Aside0 (w520.heap[gb192]? = some (.cells #[.slice none 0 0] 29 (0, 0))) := ⟨h6_⟩
    have n7_ : Aside0 (w520.heap[gb193]? = some (.cells #[.int .i64 0, .int .i64 0, .int .i64 0, .int .i64 0] 60 (0, 0))) := ⟨h7_⟩
    have n8_ : Aside0 (w520.heap[gb202]? = some (.cells #[.slice none 0 0] 29 (0, 0))) := ⟨h8_⟩
    have n9_ : Aside0 (w.heap.size ≤ gb202) := ⟨h9_⟩
    have n10_ : Aside0 (w.heap.size ≤ gb202) := ⟨h10_⟩
    have n11_ : Aside0 (gb188 ≠ gb202) := ⟨h11_⟩
    have n12_ : Aside0 (gb202 ≠ gb188) := ⟨h12_⟩
    have n13_ : Aside0 (gb189 ≠ gb202) := ⟨h13_⟩
    have n14_ : Aside0 (gb202 ≠ gb189) := ⟨h14_⟩
    have n15_ : Aside0 (gb190 ≠ gb202) := ⟨h15_⟩
    have n16_ : Aside0 (gb202 ≠ gb190) := ⟨h16_⟩
    have n17_ : Aside0 (gb191 ≠ gb202) := ⟨h17_⟩
    have n18_ : Aside0 (gb202 ≠ gb191) := ⟨h18_⟩
    have n19_ : Aside0 (gb192 ≠ gb202) := ⟨h19_⟩
    have n20_ : Aside0 (gb202 ≠ gb192) := ⟨h20_⟩
    have n21_ : Aside0 (gb193 ≠ gb202) := ⟨h21_⟩
    have n22_ : Aside0 (gb202 ≠ gb193) := ⟨h22_⟩
    have n23_ : Aside0 (Below w.heap.size w w520) := ⟨h23_⟩
    clear BK188
    clear BK189
    clear BK190
    clear BK191
    clear BK192
    clear BK193
    clear HB
    clear h0_ h1_ h2_ h3_ h4_ h5_ h6_ h7_ h8_ h9_ h10_ h11_ h12_ h13_ h14_ h15_ h16_ h17_ h18_ h19_ h20_ h21_ h22_ h23_
    have HO197 := n0_
    have HO200 := n1_
    have BK188 := n2_
    have BK189 := n3_
    have BK190 := n4_
    have BK191 := n5_
    have BK192 := n6_
    have BK193 := n7_
    have BK202 := n8_
    have GW202 := n9_
    have GE202 := n10_
    have NB188_202 := n11_
    have NB202_188 := n12_
    have NB189_202 := n13_
    have NB202_189 := n14_
    have NB190_202 := n15_
    have NB202_190 := n16_
    have NB191_202 := n17_
    have NB202_191 := n18_
    have NB192_202 := n19_
    have NB202_192 := n20_
    have NB193_202 := n21_
    have NB202_193 := n22_
    have HB := n23_
    clear n0_ n1_ n2_ n3_ n4_ n5_ n6_ n7_ n8_ n9_ n10_ n11_ n12_ n13_ n14_ n15_ n16_ n17_ n18_ n19_ n20_ n21_ n22_ n23_
    have hHeld : w520.cell? ⟨gb188, 0, none⟩ = some (.int .i64 a0_0) ∧ w520.cell? ⟨gb188, 1, none⟩ = some (.slice A0_1 l0_1.length c0_1) ∧ w520.cell? ⟨gb189, 0, none⟩ = some (.slice A2_0 l2_0.length c2_0) := hS_
    refine norm_ (a' := ?_) ?_ ?_
    rotate_left
    ·simp only [putAll, Act.put, ylA, ylZ, ylS]
     rfl
    refine one_ (i := 4) (N := some 13) #[true, true, true, true, true, true, false, false] rfl rfl (one_of HT_.out (by kernel_rfl)) (by decide) (fun K hK => ?_)
    refine box_step ?hg (N := 13) ?hd (cs := #[.int .i64 0, .slice none 0 0]) (t := 52) ?hr ?_; (case hd => rfl); (case hg => rfl); (case hr => first | (go_simp; done) | (go_simp; rfl))
    intro gb201 hg w521 hbox hb
    have n0_ := yaM (yrB HO197.out hb)
    have n1_ := yaM (yrB HO200.out hb)
    have n2_ := yaM (ykB (g := gb188) (o := .cells #[.int .i64 a0_0, .slice A0_1 l0_1.length c0_1] 52 (0, 0)) BK188.out hb)
    have n3_ := yaM (ykB (g := gb189) (o := .cells #[.slice A2_0 l2_0.length c2_0] 29 (0, 0)) BK189.out hb)
    have n4_ := yaM (ykB (g := gb190) (o := .cells #[.int .i64 a3_0, .int .i64 a3_1] 32 (0, 0)) BK190.out hb)
    have n5_ := yaM (ykB (g := gb191) (o := .cells #[.int .i64 0, .slice none 0 0] 52 (0, 0)) BK191.out hb)
    have n6_ := yaM (ykB (g := gb192) (o := .cells #[.slice none 0 0] 29 (0, 0)) BK192.out hb)
    have n7_ := yaM (ykB (g := gb193) (o := .cells #[.int .i64 0, .int .i64 0, .int .i64 0, .int .i64 0] 60 (0, 0)) BK193.out hb)
    have n8_ := yaM (ykB (g := gb202) (o := .cells #[.slice none 0 0] 29 (0, 0)) BK202.out hb)
    have n9_ := yaM (ybT (by repeat (first | (with_reducible first | exact HB.out | apply ybA | apply ybN | apply ybD | refine ybS ?_ GE191.out | refine ybS ?_ GE192.out | refine ybS ?_ GE193.out | refine ybS ?_ GE202.out) | exact HB.out)) hb)
    have n10_ := yaM (hbox)
    have n11_ := yaM ((by rw [hg]; exact (ybZ (by repeat (first | (with_reducible first | exact HB.out | apply ybA | apply ybN | apply ybD | refine ybS ?_ GE191.out | refine ybS ?_ GE192.out | refine ybS ?_ GE193.out | refine ybS ?_ GE202.out) | exact HB.out))) : w.heap.size ≤ gb201))
    have n12_ := yaM ((by rw [hg]; exact (ybZ (by repeat (first | (with_reducible first | exact HB.out | apply ybA | apply ybN | apply ybD | refine ybS ?_ GE191.out | refine ybS ?_ GE192.out | refine ybS ?_ GE193.out | refine ybS ?_ GE202.out) | exact HB.out))) : w.heap.size ≤ gb201))
    have n13_ := yaM ((by rw [hg]; exact Nat.ne_of_lt (ykL (g := gb188) (o := .cells #[.int .i64 a0_0, .slice A0_1 l0_1.length c0_1] 52 (0, 0)) BK188.out) : gb188 ≠ gb201))
    have n14_ := yaM ((by rw [hg]; exact Nat.ne_of_gt (ykL (g := gb188) (o := .cells #[.int .i64 a0_0, .slice A0_1 l0_1.length c0_1] 52 (0, 0)) BK188.out) : gb201 ≠ gb188))
    have n15_ := yaM ((by rw [hg]; exact Nat.ne_of_lt (ykL (g := gb189) (o := .cells #[.slice A2_0 l2_0.length c2_0] 29 (0, 0)) BK189.out) : gb189 ≠ gb201))
    have n16_ := yaM ((by rw [hg]; exact Nat.ne_of_gt (ykL (g := gb189) (o := .cells #[.slice A2_0 l2_0.length c2_0] 29 (0, 0)) BK189.out) : gb201 ≠ gb189))
    have n17_ := yaM ((by rw [hg]; exact Nat.ne_of_lt (ykL (g := gb190) (o := .cells #[.int .i64 a3_0, .int .i64 a3_1] 32 (0, 0)) BK190.out) : gb190 ≠ gb201))
    have n18_ := yaM ((by rw [hg]; exact Nat.ne_of_gt (ykL (g := gb190) (o := .cells #[.int .i64 a3_0, .int .i64 a3_1] 32 (0, 0)) BK190.out) : gb201 ≠ gb190))
    have n19_ := yaM ((by rw [hg]; exact Nat.ne_of_lt (ykL (g := gb191) (o := .cells #[.int .i64 0, .slice none 0 0] 52 (0, 0)) BK191.out) : gb191 ≠ gb201))
    have n20_ := yaM ((by rw [hg]; exact Nat.ne_of_gt (ykL (g := gb191) (o := .cells #[.int .i64 0, .slice none 0 0] 52 (0, 0)) BK191.out) : gb201 ≠ gb191))
    have n21_ := yaM ((by rw [hg]; exact Nat.ne_of_lt (ykL (g := gb192) (o := .cells #[.slice none 0 0] 29 (0, 0)) BK192.out) : gb192 ≠ gb201))
    have n22_ := yaM ((by rw [hg]; exact Nat.ne_of_gt (ykL (g := gb192) (o := .cells #[.slice none 0 0] 29 (0, 0)) BK192.out) : gb201 ≠ gb192))
    have n23_ := yaM ((by rw [hg]; exact Nat.ne_of_lt (ykL (g := gb193) (o := .cells #[.int .i64 0, .int .i64 0, .int .i64 0, .int .i64 0] 60 (0, 0)) BK193.out) : gb193 ≠ gb201))
    have n24_ := yaM ((by rw [hg]; exact Nat.ne_of_gt (ykL (g := gb193) (o := .cells #[.int .i64 0, .int .i64 0, .int .i64 0, .int .i64 0] 60 (0, 0)) BK193.out) : gb201 ≠ gb193))
    have n25_ := yaM ((by rw [hg]; exact Nat.ne_of_lt (ykL (g := gb202) (o := .cells #[.slice none 0 0] 29 (0, 0)) BK202.out) : gb202 ≠ gb201))
    have n26_ := yaM ((by rw [hg]; exact Nat.ne_of_gt (ykL (g := gb202) (o := .cells #[.slice none 0 0] 29 (0, 0)) BK202.out) : gb201 ≠ gb202))
    clear HO197
    clear HO200
    clear BK188
    clear BK189
    clear BK190
    clear BK191
    clear BK192
    clear BK193
    clear BK202
    clear HB
    have HO197 := n0_
    have HO200 := n1_
    have BK188 := n2_
    have BK189 := n3_
    have BK190 := n4_
    have BK191 := n5_
    have BK192 := n6_
    have BK193 := n7_
    have BK202 := n8_
    have HB := n9_
    have BK201 := n10_
    have GW201 := n11_
    have GE201 := n12_
    have NB188_201 := n13_
    have NB201_188 := n14_
    have NB189_201 := n15_
    have NB201_189 := n16_
    have NB190_201 := n17_
    have NB201_190 := n18_
    have NB191_201 := n19_
    have NB201_191 := n20_
    have NB192_201 := n21_
    have NB201_192 := n22_
    have NB193_201 := n23_
    have NB201_193 := n24_
    have NB202_201 := n25_
    have NB201_202 := n26_
    clear n0_ n1_ n2_ n3_ n4_ n5_ n6_ n7_ n8_ n9_ n10_ n11_ n12_ n13_ n14_ n15_ n16_ n17_ n18_ n19_ n20_ n21_ n22_ n23_ n24_ n25_ n26_
    clear hb hbox hg
    refine hK.out _ _ ⟨(ykC BK188.out 0).trans rfl, (ykC BK188.out 1).trans rfl, (ykC BK189.out 0).trans rfl⟩ (fun hHeld => ?_)
    clear hK K
    refine norm_ (a' := ?_) ?_ ?_
    rotate_left
    ·show Act.put _ (some 13) _ = _
     simp only [Act.put, ylA, ylZ, ylS, i64_w, i32_w]
     rfl
    exact norm_ (by first | (simp only [putAll, Act.put, ylA, ylZ, ylS]; done) | (simp only [putAll, Act.put, ylA, ylZ, ylS]; rfl)) (hJ1_3_4_5 (v196, v199, gb201, gb202) _ ⟨hHeld, HO197.out, HO200.out, BK188.out, BK189.out, BK190.out, BK191.out, BK192.out, BK193.out, BK201.out, BK202.out, GW201.out, GE201.out, NB188_201.out, NB201_188.out, NB189_201.out, NB201_189.out, NB190_201.out, NB201_190.out, NB191_201.out, NB201_191.out, NB192_201.out, NB201_192.out, NB193_201.out, NB201_193.out, NB202_201.out, NB201_202.out, GW202.out, GE202.out, NB188_202.out, NB202_188.out, NB189_202.out, NB202_189.out, NB190_202.out, NB202_190.out, NB191_202.out, NB202_191.out, NB192_202.out, NB202_192.out, NB193_202.out, NB202_193.out, (by repeat (first | (with_reducible first | exact HB.out | apply ybA | apply ybN | apply ybD | refine ybS ?_ GE191.out | refine ybS ?_ GE192.out | refine ybS ?_ GE193.out | refine ybS ?_ GE202.out | refine ybS ?_ GE201.out) | exact HB.out))⟩)
  ·skip
   rintro ⟨v196, v199, gb201⟩ w520 ⟨hS_, h0_, h1_, h2_, h3_, h4_, h5_, h6_, h7_, h8_, h9_, h10_, h11_, h12_, h13_, h14_, h15_, h16_, h17_, h18_, h19_, h20_, h21_, h22_, h23_⟩
   have n0_ : Aside0 (Kd.R (Kd.int .i64) 3 w520 w.heap.size (fun k_ => some k_ ≠ (v199 : Value).ownBlock) v196 t195) := ⟨h0_⟩
   have n1_ : Aside0 (Kd.R (Kd.int .i64) 3 w520 w.heap.size (fun k_ => some k_ ≠ (v196 : Value).ownBlock) v199 t198) := ⟨h1_⟩
   have n2_ : Aside0 (w520.heap[gb188]? = some (.cells #[.int .i64 a0_0, .slice A0_1 l0_1.length c0_1] 52 (0, 0))) := ⟨h2_⟩
   have n3_ : Aside0 (w520.heap[gb189]? = some (.cells #[.slice A2_0 l2_0.length c2_0] 29 (0, 0))) := ⟨h3_⟩
   have n4_ : Aside0 (w520.heap[gb190]? = some (.cells #[.int .i64 a3_0, .int .i64 a3_1] 32 (0, 0))) := ⟨h4_⟩
   have n5_ : Aside0 (w520.heap[gb191]? = some (.cells #[.int .i64 0, .slice none 0 0] 52 (0, 0))) := ⟨h5_⟩
   have n6_ : Aside0 (w520.heap[gb192]? = some (.cells #[.slice none 0 0] 29 (0, 0))) := ⟨h6_⟩
   have n7_ : Aside0 (w520.heap[gb193]? = some (.cells #[.int .i64 0, .int .i64 0, .int .i64 0, .int .i64 0] 60 (0, 0))) := ⟨h7_⟩
   have n8_ : Aside0 (w520.heap[gb201]? = some (.cells #[.int .i64 0, .slice none 0 0] 52 (0, 0))) := ⟨h8_⟩
   have n9_ : Aside0 (w.heap.size ≤ gb201) := ⟨h9_⟩
   have n10_ : Aside0 (w.heap.size ≤ gb201) := ⟨h10_⟩
   have n11_ : Aside0 (gb188 ≠ gb201) := ⟨h11_⟩
   have n12_ : Aside0 (gb201 ≠ gb188) := ⟨h12_⟩
   have n13_ : Aside0 (gb189 ≠ gb201) := ⟨h13_⟩
   have n14_ : Aside0 (gb201 ≠ gb189) := ⟨h14_⟩
   have n15_ : Aside0 (gb190 ≠ gb201) := ⟨h15_⟩
   have n16_ : Aside0 (gb201 ≠ gb190) := ⟨h16_⟩
   have n17_ : Aside0 (gb191 ≠ gb201) := ⟨h17_⟩
   have n18_ : Aside0 (gb201 ≠ gb191) := ⟨h18_⟩
   have n19_ : Aside0 (gb192 ≠ gb201) := ⟨h19_⟩
   have n20_ : Aside0 (gb201 ≠ gb192) := ⟨h20_⟩
   have n21_ : Aside0 (gb193 ≠ gb201) := ⟨h21_⟩
   have n22_ : Aside0 (gb201 ≠ gb193) := ⟨h22_⟩
   have n23_ : Aside0 (Below w.heap.size w w520) := ⟨h23_⟩
   clear BK188
   clear BK189
   clear BK190
   clear BK191
   clear BK192
   clear BK193
   clear HB
   clear h0_ h1_ h2_ h3_ h4_ h5_ h6_ h7_ h8_ h9_ h10_ h11_ h12_ h13_ h14_ h15_ h16_ h17_ h18_ h19_ h20_ h21_ h22_ h23_
   have HO197 := n0_
   have HO200 := n1_
   have BK188 := n2_
   have BK189 := n3_
   have BK190 := n4_
   have BK191 := n5_
   have BK192 := n6_
   have BK193 := n7_
   have BK201 := n8_
   have GW201 := n9_
   have GE201 := n10_
   have NB188_201 := n11_
   have NB201_188 := n12_
   have NB189_201 := n13_
   have NB201_189 := n14_
   have NB190_201 := n15_
   have NB201_190 := n16_
   have NB191_201 := n17_
   have NB201_191 := n18_
   have NB192_201 := n19_
   have NB201_192 := n20_
   have NB193_201 := n21_
   have NB201_193 := n22_
   have HB := n23_
   clear n0_ n1_ n2_ n3_ n4_ n5_ n6_ n7_ n8_ n9_ n10_ n11_ n12_ n13_ n14_ n15_ n16_ n17_ n18_ n19_ n20_ n21_ n22_ n23_
   have hHeld : w520.cell? ⟨gb188, 0, none⟩ = some (.int .i64 a0_0) ∧ w520.cell? ⟨gb188, 1, none⟩ = some (.slice A0_1 l0_1.length c0_1) ∧ w520.cell? ⟨gb189, 0, none⟩ = some (.slice A2_0 l2_0.length c2_0) := hS_
   refine norm_ (a' := ?_) ?_ ?_
   rotate_left
   ·simp only [putAll, Act.put, ylA, ylZ, ylS]
    rfl
   refine one_ (i := 5) (N := some 14) #[true, true, true, true, true, true, false, false] rfl rfl (one_of HT_.out (by kernel_rfl)) (by decide) (fun K hK => ?_)
   refine box_step ?hg (N := 14) ?hd (cs := #[.slice none 0 0]) (t := 29) ?hr ?_; (case hd => rfl); (case hg => rfl); (case hr => first | (go_simp; done) | (go_simp; rfl))
   intro gb202 hg w521 hbox hb
   have n0_ := yaM (yrB HO197.out hb)
   have n1_ := yaM (yrB HO200.out hb)
   have n2_ := yaM (ykB (g := gb188) (o := .cells #[.int .i64 a0_0, .slice A0_1 l0_1.length c0_1] 52 (0, 0)) BK188.out hb)
   have n3_ := yaM (ykB (g := gb189) (o := .cells #[.slice A2_0 l2_0.length c2_0] 29 (0, 0)) BK189.out hb)
   have n4_ := yaM (ykB (g := gb190) (o := .cells #[.int .i64 a3_0, .int .i64 a3_1] 32 (0, 0)) BK190.out hb)
   have n5_ := yaM (ykB (g := gb191) (o := .cells #[.int .i64 0, .slice none 0 0] 52 (0, 0)) BK191.out hb)
   have n6_ := yaM (ykB (g := gb192) (o := .cells #[.slice none 0 0] 29 (0, 0)) BK192.out hb)
   have n7_ := yaM (ykB (g := gb193) (o := .cells #[.int .i64 0, .int .i64 0, .int .i64 0, .int .i64 0] 60 (0, 0)) BK193.out hb)
   have n8_ := yaM (ykB (g := gb201) (o := .cells #[.int .i64 0, .slice none 0 0] 52 (0, 0)) BK201.out hb)
   have n9_ := yaM (ybT (by repeat (first | (with_reducible first | exact HB.out | apply ybA | apply ybN | apply ybD | refine ybS ?_ GE191.out | refine ybS ?_ GE192.out | refine ybS ?_ GE193.out | refine ybS ?_ GE201.out) | exact HB.out)) hb)
   have n10_ := yaM (hbox)
   have n11_ := yaM ((by rw [hg]; exact (ybZ (by repeat (first | (with_reducible first | exact HB.out | apply ybA | apply ybN | apply ybD | refine ybS ?_ GE191.out | refine ybS ?_ GE192.out | refine ybS ?_ GE193.out | refine ybS ?_ GE201.out) | exact HB.out))) : w.heap.size ≤ gb202))
   have n12_ := yaM ((by rw [hg]; exact (ybZ (by repeat (first | (with_reducible first | exact HB.out | apply ybA | apply ybN | apply ybD | refine ybS ?_ GE191.out | refine ybS ?_ GE192.out | refine ybS ?_ GE193.out | refine ybS ?_ GE201.out) | exact HB.out))) : w.heap.size ≤ gb202))
   have n13_ := yaM ((by rw [hg]; exact Nat.ne_of_lt (ykL (g := gb188) (o := .cells #[.int .i64 a0_0, .slice A0_1 l0_1.length c0_1] 52 (0, 0)) BK188.out) : gb188 ≠ gb202))
   have n14_ := yaM ((by rw [hg]; exact Nat.ne_of_gt (ykL (g := gb188) (o := .cells #[.int .i64 a0_0, .slice A0_1 l0_1.length c0_1] 52 (0, 0)) BK188.out) : gb202 ≠ gb188))
   have n15_ := yaM ((by rw [hg]; exact Nat.ne_of_lt (ykL (g := gb189) (o := .cells #[.slice A2_0 l2_0.length c2_0] 29 (0, 0)) BK189.out) : gb189 ≠ gb202))
   have n16_ := yaM ((by rw [hg]; exact Nat.ne_of_gt (ykL (g := gb189) (o := .cells #[.slice A2_0 l2_0.length c2_0] 29 (0, 0)) BK189.out) : gb202 ≠ gb189))
   have n17_ := yaM ((by rw [hg]; exact Nat.ne_of_lt (ykL (g := gb190) (o := .cells #[.int .i64 a3_0, .int .i64 a3_1] 32 (0, 0)) BK190.out) : gb190 ≠ gb202))
   have n18_ := yaM ((by rw [hg]; exact Nat.ne_of_gt (ykL (g := gb190) (o := .cells #[.int .i64 a3_0, .int .i64 a3_1] 32 (0, 0)) BK190.out) : gb202 ≠ gb190))
   have n19_ := yaM ((by rw [hg]; exact Nat.ne_of_lt (ykL (g := gb191) (o := .cells #[.int .i64 0, .slice none 0 0] 52 (0, 0)) BK191.out) : gb191 ≠ gb202))
   have n20_ := yaM ((by rw [hg]; exact Nat.ne_of_gt (ykL (g := gb191) (o := .cells #[.int .i64 0, .slice none 0 0] 52 (0, 0)) BK191.out) : gb202 ≠ gb191))
   have n21_ := yaM ((by rw [hg]; exact Nat.ne_of_lt (ykL (g := gb192) (o := .cells #[.slice none 0 0] 29 (0, 0)) BK192.out) : gb192 ≠ gb202))
   have n22_ := yaM ((by rw [hg]; exact Nat.ne_of_gt (ykL (g := gb192) (o := .cells #[.slice none 0 0] 29 (0, 0)) BK192.out) : gb202 ≠ gb192))
   have n23_ := yaM ((by rw [hg]; exact Nat.ne_of_lt (ykL (g := gb193) (o := .cells #[.int .i64 0, .int .i64 0, .int .i64 0, .int .i64 0] 60 (0, 0)) BK193.out) : gb193 ≠ gb202))
   have n24_ := yaM ((by rw [hg]; exact Nat.ne_of_gt (ykL (g := gb193) (o := .cells #[.int .i64 0, .int .i64 0, .int .i64 0, .int .i64 0] 60 (0, 0)) BK193.out) : gb202 ≠ gb193))
   have n25_ := yaM ((by rw [hg]; exact Nat.ne_of_lt (ykL (g := gb201) (o := .cells #[.int .i64 0, .slice none 0 0] 52 (0, 0)) BK201.out) : gb201 ≠ gb202))
   have n26_ := yaM ((by rw [hg]; exact Nat.ne_of_gt (ykL (g := gb201) (o := .cells #[.int .i64 0, .slice none 0 0] 52 (0, 0)) BK201.out) : gb202 ≠ gb201))
   clear HO197
   clear HO200
   clear BK188
   clear BK189
   clear BK190
   clear BK191
   clear BK192
   clear BK193
   clear BK201
   clear HB
   have HO197 := n0_
   have HO200 := n1_
   have BK188 := n2_
   have BK189 := n3_
   have BK190 := n4_
   have BK191 := n5_
   have BK192 := n6_
   have BK193 := n7_
   have BK201 := n8_
   have HB := n9_
   have BK202 := n10_
   have GW202 := n11_
   have GE202 := n12_
   have NB188_202 := n13_
   have NB202_188 := n14_
   have NB189_202 := n15_
   have NB202_189 := n16_
   have NB190_202 := n17_
   have NB202_190 := n18_
   have NB191_202 := n19_
   have NB202_191 := n20_
   have NB192_202 := n21_
   have NB202_192 := n22_
   have NB193_202 := n23_
   have NB202_193 := n24_
   have NB201_202 := n25_
   have NB202_201 := n26_
   clear n0_ n1_ n2_ n3_ n4_ n5_ n6_ n7_ n8_ n9_ n10_ n11_ n12_ n13_ n14_ n15_ n16_ n17_ n18_ n19_ n20_ n21_ n22_ n23_ n24_ n25_ n26_
   clear hb hbox hg
   refine hK.out _ _ ⟨(ykC BK188.out 0).trans rfl, (ykC BK188.out 1).trans rfl, (ykC BK189.out 0).trans rfl⟩ (fun hHeld => ?_)
   clear hK K
   refine norm_ (a' := ?_) ?_ ?_
   rotate_left
   ·show Act.put _ (some 14) _ = _
    simp only [Act.put, ylA, ylZ, ylS, i64_w, i32_w]
    rfl
   exact norm_ (by first | (simp only [putAll, Act.put, ylA, ylZ, ylS]; done) | (simp only [putAll, Act.put, ylA, ylZ, ylS]; rfl)) (hJ1_3_4_5 (v196, v199, gb201, gb202) _ ⟨hHeld, HO197.out, HO200.out, BK188.out, BK189.out, BK190.out, BK191.out, BK192.out, BK193.out, BK201.out, BK202.out, GW201.out, GE201.out, NB188_201.out, NB201_188.out, NB189_201.out, NB201_189.out, NB190_201.out, NB201_190.out, NB191_201.out, NB201_191.out, NB192_201.out, NB201_192.out, NB193_201.out, NB201_193.out, NB202_201.out, NB201_202.out, GW202.out, GE202.out, NB188_202.out, NB202_188.out, NB189_202.out, NB202_189.out, NB190_202.out, NB202_190.out, NB191_202.out, NB202_191.out, NB192_202.out, NB202_192.out, NB193_202.out, NB202_193.out, (by repeat (first | (with_reducible first | exact HB.out | apply ybA | apply ybN | apply ybD | refine ybS ?_ GE191.out | refine ybS ?_ GE192.out | refine ybS ?_ GE193.out | refine ybS ?_ GE201.out | refine ybS ?_ GE202.out) | exact HB.out))⟩)
 rintro ⟨v196, v199, gb201, gb202⟩ w521 ⟨hS_, h0_, h1_, h2_, h3_, h4_, h5_, h6_, h7_, h8_, h9_, h10_, h11_, h12_, h13_, h14_, h15_, h16_, h17_, h18_, h19_, h20_, h21_, h22_, h23_, h24_, h25_, h26_, h27_, h28_, h29_, h30_, h31_, h32_, h33_, h34_, h35_, h36_, h37_, h38_, h39_, h40_⟩
 have n0_ : Aside0 (Kd.R (Kd.int .i64) 3 w521 w.heap.size (fun k_ => some k_ ≠ (v199 : Value).ownBlock) v196 t195) := ⟨h0_⟩
 have n1_ : Aside0 (Kd.R (Kd.int .i64) 3 w521 w.heap.size (fun k_ => some k_ ≠ (v196 : Value).ownBlock) v199 t198) := ⟨h1_⟩
 have n2_ : Aside0 (w521.heap[gb188]? = some (.cells #[.int .i64 a0_0, .slice A0_1 l0_1.length c0_1] 52 (0, 0))) := ⟨h2_⟩
 have n3_ : Aside0 (w521.heap[gb189]? = some (.cells #[.slice A2_0 l2_0.length c2_0] 29 (0, 0))) := ⟨h3_⟩
 have n4_ : Aside0 (w521.heap[gb190]? = some (.cells #[.int .i64 a3_0, .int .i64 a3_1] 32 (0, 0))) := ⟨h4_⟩
 have n5_ : Aside0 (w521.heap[gb191]? = some (.cells #[.int .i64 0, .slice none 0 0] 52 (0, 0))) := ⟨h5_⟩
 have n6_ : Aside0 (w521.heap[gb192]? = some (.cells #[.slice none 0 0] 29 (0, 0))) := ⟨h6_⟩
 have n7_ : Aside0 (w521.heap[gb193]? = some (.cells #[.int .i64 0, .int .i64 0, .int .i64 0, .int .i64 0] 60 (0, 0))) := ⟨h7_⟩
 have n8_ : Aside0 (w521.heap[gb201]? = some (.cells #[.int .i64 0, .slice none 0 0] 52 (0, 0))) := ⟨h8_⟩
 have n9_ : Aside0 (w521.heap[gb202]? = some (.cells #[.slice none 0 0] 29 (0, 0))) := ⟨h9_⟩
 have n10_ : Aside0 (w.heap.size ≤ gb201) := ⟨h10_⟩
 have n11_ : Aside0 (w.heap.size ≤ gb201) := ⟨h11_⟩
 have n12_ : Aside0 (gb188 ≠ gb201) := ⟨h12_⟩
 have n13_ : Aside0 (gb201 ≠ gb188) := ⟨h13_⟩
 have n14_ : Aside0 (gb189 ≠ gb201) := ⟨h14_⟩
 have n15_ : Aside0 (gb201 ≠ gb189) := ⟨h15_⟩
 have n16_ : Aside0 (gb190 ≠ gb201) := ⟨h16_⟩
 have n17_ : Aside0 (gb201 ≠ gb190) := ⟨h17_⟩
 have n18_ : Aside0 (gb191 ≠ gb201) := ⟨h18_⟩
 have n19_ : Aside0 (gb201 ≠ gb191) := ⟨h19_⟩
 have n20_ : Aside0 (gb192 ≠ gb201) := ⟨h20_⟩
 have n21_ : Aside0 (gb201 ≠ gb192) := ⟨h21_⟩
 have n22_ : Aside0 (gb193 ≠ gb201) := ⟨h22_⟩
 have n23_ : Aside0 (gb201 ≠ gb193) := ⟨h23_⟩
 have n24_ : Aside0 (gb202 ≠ gb201) := ⟨h24_⟩
 have n25_ : Aside0 (gb201 ≠ gb202) := ⟨h25_⟩
 have n26_ : Aside0 (w.heap.size ≤ gb202) := ⟨h26_⟩
 have n27_ : Aside0 (w.heap.size ≤ gb202) := ⟨h27_⟩
 have n28_ : Aside0 (gb188 ≠ gb202) := ⟨h28_⟩
 have n29_ : Aside0 (gb202 ≠ gb188) := ⟨h29_⟩
 have n30_ : Aside0 (gb189 ≠ gb202) := ⟨h30_⟩
 have n31_ : Aside0 (gb202 ≠ gb189) := ⟨h31_⟩
 have n32_ : Aside0 (gb190 ≠ gb202) := ⟨h32_⟩
 have n33_ : Aside0 (gb202 ≠ gb190) := ⟨h33_⟩
 have n34_ : Aside0 (gb191 ≠ gb202) := ⟨h34_⟩
 have n35_ : Aside0 (gb202 ≠ gb191) := ⟨h35_⟩
 have n36_ : Aside0 (gb192 ≠ gb202) := ⟨h36_⟩
 have n37_ : Aside0 (gb202 ≠ gb192) := ⟨h37_⟩
 have n38_ : Aside0 (gb193 ≠ gb202) := ⟨h38_⟩
 have n39_ : Aside0 (gb202 ≠ gb193) := ⟨h39_⟩
 have n40_ : Aside0 (Below w.heap.size w w521) := ⟨h40_⟩
 clear BK188
 clear BK189
 clear BK190
 clear BK191
 clear BK192
 clear BK193
 clear HB
 clear h0_ h1_ h2_ h3_ h4_ h5_ h6_ h7_ h8_ h9_ h10_ h11_ h12_ h13_ h14_ h15_ h16_ h17_ h18_ h19_ h20_ h21_ h22_ h23_ h24_ h25_ h26_ h27_ h28_ h29_ h30_ h31_ h32_ h33_ h34_ h35_ h36_ h37_ h38_ h39_ h40_
 have HO197 := n0_
 have HO200 := n1_
 have BK188 := n2_
 have BK189 := n3_
 have BK190 := n4_
 have BK191 := n5_
 have BK192 := n6_
 have BK193 := n7_
 have BK201 := n8_
 have BK202 := n9_
 have GW201 := n10_
 have GE201 := n11_
 have NB188_201 := n12_
 have NB201_188 := n13_
 have NB189_201 := n14_
 have NB201_189 := n15_
 have NB190_201 := n16_
 have NB201_190 := n17_
 have NB191_201 := n18_
 have NB201_191 := n19_
 have NB192_201 := n20_
 have NB201_192 := n21_
 have NB193_201 := n22_
 have NB201_193 := n23_
 have NB202_201 := n24_
 have NB201_202 := n25_
 have GW202 := n26_
 have GE202 := n27_
 have NB188_202 := n28_
 have NB202_188 := n29_
 have NB189_202 := n30_
 have NB202_189 := n31_
 have NB190_202 := n32_
 have NB202_190 := n33_
 have NB191_202 := n34_
 have NB202_191 := n35_
 have NB192_202 := n36_
 have NB202_192 := n37_
 have NB193_202 := n38_
 have NB202_193 := n39_
 have HB := n40_
 clear n0_ n1_ n2_ n3_ n4_ n5_ n6_ n7_ n8_ n9_ n10_ n11_ n12_ n13_ n14_ n15_ n16_ n17_ n18_ n19_ n20_ n21_ n22_ n23_ n24_ n25_ n26_ n27_ n28_ n29_ n30_ n31_ n32_ n33_ n34_ n35_ n36_ n37_ n38_ n39_ n40_
 have hHeld : w521.cell? ⟨gb188, 0, none⟩ = some (.int .i64 a0_0) ∧ w521.cell? ⟨gb188, 1, none⟩ = some (.slice A0_1 l0_1.length c0_1) ∧ w521.cell? ⟨gb189, 0, none⟩ = some (.slice A2_0 l2_0.length c2_0) := hS_
 obtain ⟨Ao523, co523, eo523⟩ := Kd.R_slice HO197.out
 (first | subst eo523 | (injection eo523 with f1_ f2_ f3_; have f4_ := f1_.symm; have f5_ := f3_.symm; clear f1_ f2_ f3_; subst f4_; subst f5_))
 obtain ⟨Ao525, co525, eo525⟩ := Kd.R_slice HO200.out
 (first | subst eo525 | (injection eo525 with f1_ f2_ f3_; have f4_ := f1_.symm; have f5_ := f3_.symm; clear f1_ f2_ f3_; subst f4_; subst f5_))
 refine norm_ (a' := ?_) ?_ ?_
 rotate_left
 ·simp only [putAll, Act.put, ylA, ylZ, ylS]
  rfl
 refine one_ (i := 6) (N := none) #[true, true, true, true, true, true, true, false] rfl rfl (one_of HT_.out (by kernel_rfl)) (by decide) (fun K hK => ?_)
 have hs522 : w521.cell? ⟨gb201, 0, none⟩ = some (.int .i64 0) := (ykC BK201.out 0).trans rfl
 have hfs522 := blk_frozen BK201.out 0
 have hns522_0 := NB188_201.out
 have hns522_1 := NB189_201.out
 have hns522_2 := NB190_201.out
 have hns522_3 := NB191_201.out
 have hns522_4 := NB192_201.out
 have hns522_5 := NB193_201.out
 have hns522_7 := NB202_201.out
 have hms522_0 := NB201_188.out
 have hms522_1 := NB201_189.out
 have hms522_2 := NB201_190.out
 have hms522_3 := NB201_191.out
 have hms522_4 := NB201_192.out
 have hms522_5 := NB201_193.out
 have hms522_7 := NB201_202.out
 have hs524 : w521.cell? ⟨gb201, 1, none⟩ = some (.slice none 0 0) := (ykC BK201.out 1).trans rfl
 have hfs524 := blk_frozen BK201.out 1
 have hns524_0 := NB188_201.out
 have hns524_1 := NB189_201.out
 have hns524_2 := NB190_201.out
 have hns524_3 := NB191_201.out
 have hns524_4 := NB192_201.out
 have hns524_5 := NB193_201.out
 have hns524_7 := NB202_201.out
 have hms524_0 := NB201_188.out
 have hms524_1 := NB201_189.out
 have hms524_2 := NB201_190.out
 have hms524_3 := NB201_191.out
 have hms524_4 := NB201_192.out
 have hms524_5 := NB201_193.out
 have hms524_7 := NB201_202.out
 refine skip_ (w1 := ?_) (by rfl) rfl ?_ ?_
 rotate_left
 ·go_simp
  rfl
 refine hK.out _ _ ⟨((cell_far (p := ⟨gb201, _, none⟩) NB188_201.out _).trans (((cell_far (p := ⟨gb201, _, none⟩) NB188_201.out _).trans (hHeld.1)))), ((cell_far (p := ⟨gb201, _, none⟩) NB188_201.out _).trans (((cell_far (p := ⟨gb201, _, none⟩) NB188_201.out _).trans (hHeld.2.1)))), ((cell_far (p := ⟨gb201, _, none⟩) NB189_201.out _).trans (((cell_far (p := ⟨gb201, _, none⟩) NB189_201.out _).trans (hHeld.2.2))))⟩ (fun hHeld => ?_)
 clear hK K
 refine one_ (i := 7) (N := none) #[true, true, true, true, true, true, true, true] rfl rfl (one_of HT_.out (by kernel_rfl)) (by decide) (fun K hK => ?_)
 have hs526 : w521.cell? ⟨gb202, 0, none⟩ = some (.slice none 0 0) := (ykC BK202.out 0).trans rfl
 have hfs526 := blk_frozen BK202.out 0
 have hns526_0 := NB188_202.out
 have hns526_1 := NB189_202.out
 have hns526_2 := NB190_202.out
 have hns526_3 := NB191_202.out
 have hns526_4 := NB192_202.out
 have hns526_5 := NB193_202.out
 have hns526_6 := NB201_202.out
 have hms526_0 := NB202_188.out
 have hms526_1 := NB202_189.out
 have hms526_2 := NB202_190.out
 have hms526_3 := NB202_191.out
 have hms526_4 := NB202_192.out
 have hms526_5 := NB202_193.out
 have hms526_6 := NB202_201.out
 refine skip_ (w1 := ?_) (by rfl) rfl ?_ ?_
 rotate_left
 ·go_simp
  rfl
 refine hK.out _ _ ⟨((cell_far (p := ⟨gb202, _, none⟩) NB188_202.out _).trans (hHeld.1)), ((cell_far (p := ⟨gb202, _, none⟩) NB188_202.out _).trans (hHeld.2.1)), ((cell_far (p := ⟨gb202, _, none⟩) NB189_202.out _).trans (hHeld.2.2))⟩ (fun hHeld => ?_)
 clear hK K
 refine done_ (done_of HT_.out (by kernel_rfl)) ?_
 have hnb527 := NB188_189.out
 have hnc527 := NB189_188.out
 have hnb528 := NB188_190.out
 have hnc528 := NB190_188.out
 have hnb529 := NB188_191.out
 have hnc529 := NB191_188.out
 have hnb530 := NB188_192.out
 have hnc530 := NB192_188.out
 have hnb531 := NB188_193.out
 have hnc531 := NB193_188.out
 have hnb532 := NB188_201.out
 have hnc532 := NB201_188.out
 have hnb533 := NB188_202.out
 have hnc533 := NB202_188.out
 have hcz534_0 : w521.cell? ⟨gb188, 0, none⟩ = some (.int .i64 a0_0) := (ykC BK188.out 0).trans rfl
 have hcz534_1 : w521.cell? ⟨gb188, 1, none⟩ = some (.slice A0_1 l0_1.length c0_1) := (ykC BK188.out 1).trans rfl
 have hfz534_0 := blk_frozen BK188.out 0
 have hfz534_1 := blk_frozen BK188.out 1
 have hnb535 := NB189_190.out
 have hnc535 := NB190_189.out
 have hnb536 := NB189_191.out
 have hnc536 := NB191_189.out
 have hnb537 := NB189_192.out
 have hnc537 := NB192_189.out
 have hnb538 := NB189_193.out
 have hnc538 := NB193_189.out
 have hnb539 := NB189_201.out
 have hnc539 := NB201_189.out
 have hnb540 := NB189_202.out
 have hnc540 := NB202_189.out
 have hcz541_0 : w521.cell? ⟨gb189, 0, none⟩ = some (.slice A2_0 l2_0.length c2_0) := (ykC BK189.out 0).trans rfl
 have hfz541_0 := blk_frozen BK189.out 0
 have hnb542 := NB190_191.out
 have hnc542 := NB191_190.out
 have hnb543 := NB190_192.out
 have hnc543 := NB192_190.out
 have hnb544 := NB190_193.out
 have hnc544 := NB193_190.out
 have hnb545 := NB190_201.out
 have hnc545 := NB201_190.out
 have hnb546 := NB190_202.out
 have hnc546 := NB202_190.out
 have hcz547_0 : w521.cell? ⟨gb190, 0, none⟩ = some (.int .i64 a3_0) := (ykC BK190.out 0).trans rfl
 have hcz547_1 : w521.cell? ⟨gb190, 1, none⟩ = some (.int .i64 a3_1) := (ykC BK190.out 1).trans rfl
 have hfz547_0 := blk_frozen BK190.out 0
 have hfz547_1 := blk_frozen BK190.out 1
 go_upto_if 29 with (first | ((with_reducible refine gate_callee (f := 72) rfl ?_); refine goesL_ (some 27) rfl rfl Try.func72 (by kernel_rfl) rfl #[.agg #[.int .i64 a0_0, .slice A0_1 l0_1.length c0_1], .slice A1 l1.length c1, .agg #[.slice A2_0 l2_0.length c2_0], .agg #[.int .i64 a3_0, .int .i64 a3_1]] rfl (by (try simp only [List.map_toArray, List.map_cons, List.map_nil]); first | done | rfl | (simp only [List.length_drop, List.length_take]; rfl)) ?_; (with_reducible refine (impl_trapOf.calls k a0_0 _ _ l0_1 _ _ l1 _ _ l2_0 a3_0 a3_1 t203 _ ?side1 ?side2 ?side3 ?side4 ?side5 ?side6 A8.out).mono ?_); (case side1 => exact Kd.C_below HR0_1.out (by repeat (first | (with_reducible first | exact HB.out | apply ybA | apply ybN | apply ybD | refine ybS ?_ GE191.out | refine ybS ?_ GE192.out | refine ybS ?_ GE193.out | refine ybS ?_ GE201.out | refine ybS ?_ GE202.out) | exact HB.out))); (case side2 => exact HC0_1.out); (case side3 => exact Kd.C_below HR1.out (by repeat (first | (with_reducible first | exact HB.out | apply ybA | apply ybN | apply ybD | refine ybS ?_ GE191.out | refine ybS ?_ GE192.out | refine ybS ?_ GE193.out | refine ybS ?_ GE201.out | refine ybS ?_ GE202.out) | exact HB.out))); (case side4 => exact HC1.out); (case side5 => exact Kd.C_below HR2_0.out (by repeat (first | (with_reducible first | exact HB.out | apply ybA | apply ybN | apply ybD | refine ybS ?_ GE191.out | refine ybS ?_ GE192.out | refine ybS ?_ GE193.out | refine ybS ?_ GE201.out | refine ybS ?_ GE202.out) | exact HB.out))); (case side6 => exact HC2_0.out); rintro e w548 ⟨rfl, hb⟩; refine ⟨_, rfl, ?_⟩; have n0_ := yaM (yrB (by (with_reducible repeat (first | apply yrA | apply yrN | apply yrD)); exact (yrM (yrM (Kd.R_far (p := ⟨gb202, 0, none⟩) (Kd.R_far (p := ⟨gb201, 1, none⟩) (Kd.R_far (p := ⟨gb201, 0, none⟩) (Kd.R_types (Kd.R_types HO197.out BK201.out (by decide)) BK202.out (by decide)) (fun _ hk => hk.1.2) (.int .i64 t194)) (fun _ hk => hk.1.2) (.slice Ao523 t195.length co523)) (fun _ hk => hk.2) (.slice Ao525 t198.length co525)) (fun _ h_ => h_.1)) (fun _ h_ => h_.1))) hb); have n1_ := yaM (yrB (by (with_reducible repeat (first | apply yrA | apply yrN | apply yrD)); exact (yrM (yrM (Kd.R_far (p := ⟨gb202, 0, none⟩) (Kd.R_far (p := ⟨gb201, 1, none⟩) (Kd.R_far (p := ⟨gb201, 0, none⟩) (Kd.R_types (Kd.R_types HO200.out BK201.out (by decide)) BK202.out (by decide)) (fun _ hk => hk.1.2) (.int .i64 t194)) (fun _ hk => hk.1.2) (.slice Ao523 t195.length co523)) (fun _ hk => hk.2) (.slice Ao525 t198.length co525)) (fun _ h_ => h_.1)) (fun _ h_ => h_.1))) hb); have n2_ := yaM (ykB (g := gb188) (o := .cells #[.int .i64 a0_0, .slice A0_1 l0_1.length c0_1] 52 (0, 0)) (by (with_reducible repeat (first | apply ykN | apply ykD | apply ykA)); refine blk_far ?_ NB188_202.out _; refine blk_far ?_ NB188_201.out _; refine blk_far ?_ NB188_201.out _; exact BK188.out) hb); have n3_ := yaM (ykB (g := gb189) (o := .cells #[.slice A2_0 l2_0.length c2_0] 29 (0, 0)) (by (with_reducible repeat (first | apply ykN | apply ykD | apply ykA)); refine blk_far ?_ NB189_202.out _; refine blk_far ?_ NB189_201.out _; refine blk_far ?_ NB189_201.out _; exact BK189.out) hb); have n4_ := yaM (ykB (g := gb190) (o := .cells #[.int .i64 a3_0, .int .i64 a3_1] 32 (0, 0)) (by (with_reducible repeat (first | apply ykN | apply ykD | apply ykA)); refine blk_far ?_ NB190_202.out _; refine blk_far ?_ NB190_201.out _; refine blk_far ?_ NB190_201.out _; exact BK190.out) hb); have n5_ := yaM (ykB (g := gb191) (o := .cells #[.int .i64 0, .slice none 0 0] 52 (0, 0)) (by (with_reducible repeat (first | apply ykN | apply ykD | apply ykA)); refine blk_far ?_ NB191_202.out _; refine blk_far ?_ NB191_201.out _; refine blk_far ?_ NB191_201.out _; exact BK191.out) hb); have n6_ := yaM (ykB (g := gb192) (o := .cells #[.slice none 0 0] 29 (0, 0)) (by (with_reducible repeat (first | apply ykN | apply ykD | apply ykA)); refine blk_far ?_ NB192_202.out _; refine blk_far ?_ NB192_201.out _; refine blk_far ?_ NB192_201.out _; exact BK192.out) hb); have n7_ := yaM (ykB (g := gb193) (o := .cells #[.int .i64 0, .int .i64 0, .int .i64 0, .int .i64 0] 60 (0, 0)) (by (with_reducible repeat (first | apply ykN | apply ykD | apply ykA)); refine blk_far ?_ NB193_202.out _; refine blk_far ?_ NB193_201.out _; refine blk_far ?_ NB193_201.out _; exact BK193.out) hb); have n8_ := yaM (ykB (g := gb201) (o := .cells #[.int .i64 t194, .slice Ao523 t195.length co523] 52 (0, 0)) (by (with_reducible repeat (first | apply ykN | apply ykD | apply ykA)); refine blk_far ?_ NB201_202.out _; refine blk_put (cs := #[.int .i64 t194, .slice none 0 0]) ?_ 1 _ rfl; refine blk_put (cs := #[.int .i64 0, .slice none 0 0]) ?_ 0 _ rfl; exact BK201.out) hb); have n9_ := yaM (ykB (g := gb202) (o := .cells #[.slice Ao525 t198.length co525] 29 (0, 0)) (by (with_reducible repeat (first | apply ykN | apply ykD | apply ykA)); refine blk_put (cs := #[.slice none 0 0]) ?_ 0 _ rfl; refine blk_far ?_ NB202_201.out _; refine blk_far ?_ NB202_201.out _; exact BK202.out) hb); have n10_ := yaM (ybT (by repeat (first | (with_reducible first | exact HB.out | apply ybA | apply ybN | apply ybD | refine ybS ?_ GE191.out | refine ybS ?_ GE192.out | refine ybS ?_ GE193.out | refine ybS ?_ GE201.out | refine ybS ?_ GE202.out) | exact HB.out)) hb); clear HO197; clear HO200; clear BK188; clear BK189; clear BK190; clear BK191; clear BK192; clear BK193; clear BK201; clear BK202; clear HB; have HO197 := n0_; have HO200 := n1_; have BK188 := n2_; have BK189 := n3_; have BK190 := n4_; have BK191 := n5_; have BK192 := n6_; have BK193 := n7_; have BK201 := n8_; have BK202 := n9_; have HB := n10_; clear n0_ n1_ n2_ n3_ n4_ n5_ n6_ n7_ n8_ n9_ n10_; (try clear hb); (try clear hb2); (try clear hk); (try clear hi)))
 (try simp only [Act.put, ylA, ylZ, ylS])
 by_cases c9 : t203 = 0
 ·have H := HH.out
  rw [if_pos c9] at H
  have c9b0 : (t203 == 0) = true := beq_iff_eq.mpr c9
  have c9b1 : (t203 != 0) = false := bne_eq_false_iff_eq.mpr c9
  clear HH
  by_cases c10 : 0 ≤ a0_0 ∧ a0_0 < (l1.length : Int)
  rotate_left
  ·rw [if_neg c10] at H; cases H
  rw [if_pos c10] at H
  obtain ⟨t206, A120, H⟩ := Option.bind_eq_some_iff.mp H
  have A12 := yaM A120
  clear A120
  by_cases c11 : 0 ≤ t206 ∧ t206 ≤ (t195.length : Int) ∧ t195.length < 17592186044416
  rotate_left
  ·rw [if_neg c11] at H; cases H
  rw [if_pos c11] at H
  have T4 := yaM c11.1
  have T5 : Aside0 (t206 + ((t195.length - t206.toNat : Nat) : Int) = (t195.length : Int)) := ⟨by omega⟩
  have T6 := yaM c11.2.2
  clear c11
  obtain ⟨t207, h207⟩ : ∃ l : List Int, l = t195.take (t195.length - t206.toNat) := ⟨_, rfl⟩
  obtain ⟨t210, h210⟩ : ∃ l : List Int, l = t195.drop (t195.length - t206.toNat) := ⟨_, rfl⟩
  replace H : impl_StepCpu.o ((rd_T64 l1 a0_0).f0) ((rd_T64 l1 a0_0).f1) (wrap64 (t194 + 1)) a4 t207 t210 t198 = some (r1, r2, r3, r4, r5, r6, r7) := by rw [h207, h210]; exact H
  have N207 := yaM h207
  have N210 := yaM h210
  clear h207 h210
  have HI := yaM (impl_StepCpu.o_inv H)
  clear H
  have c10b0 : decide (0 ≤ a0_0) = true := decide_eq_true c10.1
  have c11b0 : decide (a0_0 < (l1.length : Int)) = true := decide_eq_true c10.2
  have p204 : 0 ≤ (a0_0 : Int) := c10.1
  have q204 : a0_0 < (l1.length : Int) := c10.2
  clear c10
  obtain ⟨ad204, e204, hx204_0, hx204_1⟩ := at_T64 HR1.out a0_0 p204 q204
  cases e204
  replace hx204_0 := (HB.out.cell (World.block_lt_of_cell? w _ hx204_0)).trans hx204_0
  replace hx204_1 := (HB.out.cell (World.block_lt_of_cell? w _ hx204_1)).trans hx204_1
  replace p204 := eq_true p204
  replace q204 := eq_true q204
  have hcx0 : w548.cell? ⟨gb188, 0, none⟩ = some (.int .i64 a0_0) := (ykC BK188.out 0).trans rfl
  have hfx0 := blk_frozen BK188.out 0
  go_upto_block 0 with (first | ((with_reducible refine gate_dst (N := 16) rfl ?_); refine box_event ?hg (N := 16) ?hd (cs := #[.int .i64 0, .int .i64 0]) (t := 64) ?hr ?_; (case hd => rfl); (case hg => rfl); (case hr => first | (go_simp; done) | (go_simp; rfl)); intro gb205 hg w314 hbox hb; have n0_ := yaM (yrB (by (with_reducible repeat (first | apply yrA | apply yrN | apply yrD)); exact HO197.out) hb); have n1_ := yaM (yrB (by (with_reducible repeat (first | apply yrA | apply yrN | apply yrD)); exact HO200.out) hb); have n2_ := yaM (ykB (by (with_reducible repeat (first | apply ykN | apply ykD | apply ykA)); exact BK188.out) hb); have n3_ := yaM (ykB (by (with_reducible repeat (first | apply ykN | apply ykD | apply ykA)); exact BK189.out) hb); have n4_ := yaM (ykB (by (with_reducible repeat (first | apply ykN | apply ykD | apply ykA)); exact BK190.out) hb); have n5_ := yaM (ykB (by (with_reducible repeat (first | apply ykN | apply ykD | apply ykA)); exact BK191.out) hb); have n6_ := yaM (ykB (by (with_reducible repeat (first | apply ykN | apply ykD | apply ykA)); exact BK192.out) hb); have n7_ := yaM (ykB (by (with_reducible repeat (first | apply ykN | apply ykD | apply ykA)); exact BK193.out) hb); have n8_ := yaM (ykB (by (with_reducible repeat (first | apply ykN | apply ykD | apply ykA)); exact BK201.out) hb); have n9_ := yaM (ykB (by (with_reducible repeat (first | apply ykN | apply ykD | apply ykA)); exact BK202.out) hb); have n10_ := yaM (ybT (by repeat (first | (with_reducible first | exact HB.out | apply ybA | apply ybN | apply ybD | refine ybS ?_ GE191.out | refine ybS ?_ GE192.out | refine ybS ?_ GE193.out | refine ybS ?_ GE201.out | refine ybS ?_ GE202.out) | exact HB.out)) hb); have n11_ := yaM (hbox); have n12_ := yaM ((by rw [hg]; exact (ybZ (by repeat (first | (with_reducible first | exact HB.out | apply ybA | apply ybN | apply ybD | refine ybS ?_ GE191.out | refine ybS ?_ GE192.out | refine ybS ?_ GE193.out | refine ybS ?_ GE201.out | refine ybS ?_ GE202.out) | exact HB.out))) : w.heap.size ≤ gb205)); have n13_ := yaM ((by rw [hg]; exact (ybZ (by repeat (first | (with_reducible first | exact HB.out | apply ybA | apply ybN | apply ybD | refine ybS ?_ GE191.out | refine ybS ?_ GE192.out | refine ybS ?_ GE193.out | refine ybS ?_ GE201.out | refine ybS ?_ GE202.out) | exact HB.out))) : w.heap.size ≤ gb205)); have n14_ := yaM ((by rw [hg]; exact Nat.ne_of_lt (ykL (by (with_reducible repeat (first | apply ykN | apply ykD | apply ykA)); exact BK188.out)) : gb188 ≠ gb205)); have n15_ := yaM ((by rw [hg]; exact Nat.ne_of_gt (ykL (by (with_reducible repeat (first | apply ykN | apply ykD | apply ykA)); exact BK188.out)) : gb205 ≠ gb188)); have n16_ := yaM ((by rw [hg]; exact Nat.ne_of_lt (ykL (by (with_reducible repeat (first | apply ykN | apply ykD | apply ykA)); exact BK189.out)) : gb189 ≠ gb205)); have n17_ := yaM ((by rw [hg]; exact Nat.ne_of_gt (ykL (by (with_reducible repeat (first | apply ykN | apply ykD | apply ykA)); exact BK189.out)) : gb205 ≠ gb189)); have n18_ := yaM ((by rw [hg]; exact Nat.ne_of_lt (ykL (by (with_reducible repeat (first | apply ykN | apply ykD | apply ykA)); exact BK190.out)) : gb190 ≠ gb205)); have n19_ := yaM ((by rw [hg]; exact Nat.ne_of_gt (ykL (by (with_reducible repeat (first | apply ykN | apply ykD | apply ykA)); exact BK190.out)) : gb205 ≠ gb190)); have n20_ := yaM ((by rw [hg]; exact Nat.ne_of_lt (ykL (by (with_reducible repeat (first | apply ykN | apply ykD | apply ykA)); exact BK191.out)) : gb191 ≠ gb205)); have n21_ := yaM ((by rw [hg]; exact Nat.ne_of_gt (ykL (by (with_reducible repeat (first | apply ykN | apply ykD | apply ykA)); exact BK191.out)) : gb205 ≠ gb191)); have n22_ := yaM ((by rw [hg]; exact Nat.ne_of_lt (ykL (by (with_reducible repeat (first | apply ykN | apply ykD | apply ykA)); exact BK192.out)) : gb192 ≠ gb205)); have n23_ := yaM ((by rw [hg]; exact Nat.ne_of_gt (ykL (by (with_reducible repeat (first | apply ykN | apply ykD | apply ykA)); exact BK192.out)) : gb205 ≠ gb192)); have n24_ := yaM ((by rw [hg]; exact Nat.ne_of_lt (ykL (by (with_reducible repeat (first | apply ykN | apply ykD | apply ykA)); exact BK193.out)) : gb193 ≠ gb205)); have n25_ := yaM ((by rw [hg]; exact Nat.ne_of_gt (ykL (by (with_reducible repeat (first | apply ykN | apply ykD | apply ykA)); exact BK193.out)) : gb205 ≠ gb193)); have n26_ := yaM ((by rw [hg]; exact Nat.ne_of_lt (ykL (by (with_reducible repeat (first | apply ykN | apply ykD | apply ykA)); exact BK201.out)) : gb201 ≠ gb205)); have n27_ := yaM ((by rw [hg]; exact Nat.ne_of_gt (ykL (by (with_reducible repeat (first | apply ykN | apply ykD | apply ykA)); exact BK201.out)) : gb205 ≠ gb201)); have n28_ := yaM ((by rw [hg]; exact Nat.ne_of_lt (ykL (by (with_reducible repeat (first | apply ykN | apply ykD | apply ykA)); exact BK202.out)) : gb202 ≠ gb205)); have n29_ := yaM ((by rw [hg]; exact Nat.ne_of_gt (ykL (by (with_reducible repeat (first | apply ykN | apply ykD | apply ykA)); exact BK202.out)) : gb205 ≠ gb202)); clear HO197; clear HO200; clear BK188; clear BK189; clear BK190; clear BK191; clear BK192; clear BK193; clear BK201; clear BK202; clear HB; have HO197 := n0_; have HO200 := n1_; have BK188 := n2_; have BK189 := n3_; have BK190 := n4_; have BK191 := n5_; have BK192 := n6_; have BK193 := n7_; have BK201 := n8_; have BK202 := n9_; have HB := n10_; have BK205 := n11_; have GW205 := n12_; have GE205 := n13_; have NB188_205 := n14_; have NB205_188 := n15_; have NB189_205 := n16_; have NB205_189 := n17_; have NB190_205 := n18_; have NB205_190 := n19_; have NB191_205 := n20_; have NB205_191 := n21_; have NB192_205 := n22_; have NB205_192 := n23_; have NB193_205 := n24_; have NB205_193 := n25_; have NB201_205 := n26_; have NB205_201 := n27_; have NB202_205 := n28_; have NB205_202 := n29_; clear n0_ n1_ n2_ n3_ n4_ n5_ n6_ n7_ n8_ n9_ n10_ n11_ n12_ n13_ n14_ n15_ n16_ n17_ n18_ n19_ n20_ n21_ n22_ n23_ n24_ n25_ n26_ n27_ n28_ n29_; clear hb hbox hg; have hnb315 := NB205_188.out; have hnc315 := NB188_205.out; have hnb316 := NB205_189.out; have hnc316 := NB189_205.out; have hnb317 := NB205_190.out; have hnc317 := NB190_205.out; have hnb318 := NB205_191.out; have hnc318 := NB191_205.out; have hnb319 := NB205_192.out; have hnc319 := NB192_205.out; have hnb320 := NB205_193.out; have hnc320 := NB193_205.out; have hnb321 := NB205_201.out; have hnc321 := NB201_205.out; have hnb322 := NB205_202.out; have hnc322 := NB202_205.out; have hcz323_0 : w314.cell? ⟨gb205, 0, none⟩ = some (.int .i64 0) := (ykC BK205.out 0).trans rfl; have hcz323_1 : w314.cell? ⟨gb205, 1, none⟩ = some (.int .i64 0) := (ykC BK205.out 1).trans rfl; have hfz323_0 := blk_frozen BK205.out 0; have hfz323_1 := blk_frozen BK205.out 1) | ((with_reducible refine gate_callee (f := 74) rfl ?_); refine goesL_ (some 41) rfl rfl Try.func74 (by kernel_rfl) rfl #[.int .i64 ((rd_T64 l1 a0_0).f0)] rfl (by (try simp only [List.map_toArray, List.map_cons, List.map_nil]); first | done | rfl | (simp only [List.length_drop, List.length_take]; rfl)) ?_; (with_reducible refine (impl_takes.calls k ((rd_T64 l1 a0_0).f0) t206 _ A12.out).mono ?_); rintro e w' ⟨rfl, ⟨nd, rfl⟩⟩; refine ⟨_, rfl, ?_⟩) | ((with_reducible refine gate_callee (f := 73) rfl ?_); refine goesL_ (some 42) rfl rfl Try.func73 (by kernel_rfl) rfl #[.pointer (some ⟨gb201, 0, none⟩), .int .i64 t206] rfl (by (try simp only [List.map_toArray, List.map_cons, List.map_nil]); first | done | rfl) ?_; (with_reducible refine (impl_taken.calls w gb201 t194 t206 (t195.length - t206.toNat) (.slice Ao523 t195.length co523) t195 (fun k_ => some k_ ≠ (.slice Ao525 t198.length co525 : Value).ownBlock) _ ?s1 ?s2 ?s3 ?s4 ?s5 ?s6).mono ?_); (case s1 => exact (by (with_reducible repeat (first | apply ykN | apply ykD | apply ykA)); refine blk_far ?_ NB201_205.out _; refine blk_far ?_ NB201_205.out _; exact BK201.out)); (case s2 => exact (by (with_reducible repeat (first | apply yrA | apply yrN | apply yrD)); exact (yrM (Kd.R_far (p := ⟨gb205, 1, none⟩) (Kd.R_far (p := ⟨gb205, 0, none⟩) (Kd.R_types HO197.out BK205.out (by decide)) (fun _ hk => hk.2) (.int .i64 ((rd_T64 l1 a0_0).f0))) (fun _ hk => hk.2) (.int .i64 ((rd_T64 l1 a0_0).f1))) (fun _ h_ => h_.1)))); (case s3 => exact (by repeat (first | (with_reducible first | exact HB.out | apply ybA | apply ybN | apply ybD | refine ybS ?_ GE205.out) | exact HB.out))); (case s4 => exact T4.out); (case s5 => exact T5.out); (case s6 => exact T6.out); rintro e wt_ ⟨vs_, v211, w1_, rfl, rfl, hs_, hl_, hb_, hw_⟩; refine ⟨_, rfl, ?_⟩; rw [← N207.out] at hs_; rw [← N210.out] at hl_; have lS_ := yrL (w := (((w314.setCell ⟨gb205, 0, none⟩ (.int .i64 ((rd_T64 l1 a0_0).f0))).setCell ⟨gb205, 1, none⟩ (.int .i64 ((rd_T64 l1 a0_0).f1))).drewN nd)) (by (with_reducible repeat (first | apply yrA | apply yrN | apply yrD)); exact (yrM (Kd.R_far (p := ⟨gb205, 1, none⟩) (Kd.R_far (p := ⟨gb205, 0, none⟩) (Kd.R_types HO197.out BK205.out (by decide)) (fun _ hk => hk.2) (.int .i64 ((rd_T64 l1 a0_0).f0))) (fun _ hk => hk.2) (.int .i64 ((rd_T64 l1 a0_0).f1))) (fun _ h_ => h_.1))); have lA_ := yrL (w := (((w314.setCell ⟨gb205, 0, none⟩ (.int .i64 ((rd_T64 l1 a0_0).f0))).setCell ⟨gb205, 1, none⟩ (.int .i64 ((rd_T64 l1 a0_0).f1))).drewN nd)) (by (with_reducible repeat (first | apply yrA | apply yrN | apply yrD)); exact (yrM (Kd.R_far (p := ⟨gb205, 1, none⟩) (Kd.R_far (p := ⟨gb205, 0, none⟩) (Kd.R_types HO200.out BK205.out (by decide)) (fun _ hk => hk.2) (.int .i64 ((rd_T64 l1 a0_0).f0))) (fun _ hk => hk.2) (.int .i64 ((rd_T64 l1 a0_0).f1))) (fun _ h_ => h_.1))); have bL_ := Kd.R_base hl_; have hA_ := yrB (by (with_reducible repeat (first | apply yrA | apply yrN | apply yrD)); exact (yrM (Kd.R_far (p := ⟨gb205, 1, none⟩) (Kd.R_far (p := ⟨gb205, 0, none⟩) (Kd.R_types HO200.out BK205.out (by decide)) (fun _ hk => hk.2) (.int .i64 ((rd_T64 l1 a0_0).f0))) (fun _ hk => hk.2) (.int .i64 ((rd_T64 l1 a0_0).f1))) (fun _ h_ => h_.1))) hb_; obtain ⟨Ao326, co326, es_⟩ := Kd.R_slice hs_; subst es_; have sA_ := hs_.1; have hs2_ := Kd.R_reok (ok := fun k_ => some k_ ≠ (v211 : Value).ownBlock ∧ some k_ ≠ (.slice Ao525 t198.length co525 : Value).ownBlock) rfl hs_ (fun k_ e_ => ⟨fun e2_ => Nat.lt_irrefl _ (Nat.lt_of_lt_of_le (lS_ k_ (hw_ ▸ e_)) (bL_ k_ e2_.symm)), sA_ k_ e_⟩); have hA2_ := Kd.R_reok (ok := fun k_ => some k_ ≠ (v211 : Value).ownBlock ∧ some k_ ≠ (.slice Ao326 t207.length co326 : Value).ownBlock) rfl hA_ (fun k_ e_ => ⟨fun e2_ => Nat.lt_irrefl _ (Nat.lt_of_lt_of_le (lA_ k_ e_) (bL_ k_ e2_.symm)), fun e2_ => sA_ k_ e2_.symm e_.symm⟩); have hl2_ := Kd.R_lower (Kd.R_reok (ok := fun k_ => some k_ ≠ (.slice Ao326 t207.length co326 : Value).ownBlock ∧ some k_ ≠ (.slice Ao525 t198.length co525 : Value).ownBlock) rfl hl_ (fun k_ e_ => ⟨fun e2_ => Nat.lt_irrefl _ (Nat.lt_of_lt_of_le (lS_ k_ (hw_ ▸ e2_.symm)) (bL_ k_ e_)), fun e2_ => Nat.lt_irrefl _ (Nat.lt_of_lt_of_le (lA_ k_ e2_.symm) (bL_ k_ e_))⟩)) (ybZ (by repeat (first | (with_reducible first | exact HB.out | apply ybA | apply ybN | apply ybD | refine ybS ?_ GE205.out) | exact HB.out))); have b201_ := ykB (g := gb201) (o := .cells #[.int .i64 t194, .slice Ao523 t195.length co523] 52 (0, 0)) (by (with_reducible repeat (first | apply ykN | apply ykD | apply ykA)); refine blk_far ?_ NB201_205.out _; refine blk_far ?_ NB201_205.out _; exact BK201.out) hb_; have n0_ := yaM (Kd.R_set hs2_ b201_ (by decide) 1 (.slice Ao326 t207.length co326)); have n1_ := yaM (Kd.R_set hA2_ b201_ (by decide) 1 (.slice Ao326 t207.length co326)); have n2_ := yaM (Kd.R_set hl2_ b201_ (by decide) 1 (.slice Ao326 t207.length co326)); have n3_ : Aside0 ((w1_.setCell ⟨gb201, 1, none⟩ (.slice Ao326 t207.length co326)).heap[gb188]? = some (.cells #[.int .i64 a0_0, .slice A0_1 l0_1.length c0_1] 52 (0, 0))) := ⟨by refine blk_far ?_ NB188_201.out _; exact ykB (g := gb188) (o := .cells #[.int .i64 a0_0, .slice A0_1 l0_1.length c0_1] 52 (0, 0)) (by (with_reducible repeat (first | apply ykN | apply ykD | apply ykA)); refine blk_far ?_ NB188_205.out _; refine blk_far ?_ NB188_205.out _; exact BK188.out) hb_⟩; have n4_ : Aside0 ((w1_.setCell ⟨gb201, 1, none⟩ (.slice Ao326 t207.length co326)).heap[gb189]? = some (.cells #[.slice A2_0 l2_0.length c2_0] 29 (0, 0))) := ⟨by refine blk_far ?_ NB189_201.out _; exact ykB (g := gb189) (o := .cells #[.slice A2_0 l2_0.length c2_0] 29 (0, 0)) (by (with_reducible repeat (first | apply ykN | apply ykD | apply ykA)); refine blk_far ?_ NB189_205.out _; refine blk_far ?_ NB189_205.out _; exact BK189.out) hb_⟩; have n5_ : Aside0 ((w1_.setCell ⟨gb201, 1, none⟩ (.slice Ao326 t207.length co326)).heap[gb190]? = some (.cells #[.int .i64 a3_0, .int .i64 a3_1] 32 (0, 0))) := ⟨by refine blk_far ?_ NB190_201.out _; exact ykB (g := gb190) (o := .cells #[.int .i64 a3_0, .int .i64 a3_1] 32 (0, 0)) (by (with_reducible repeat (first | apply ykN | apply ykD | apply ykA)); refine blk_far ?_ NB190_205.out _; refine blk_far ?_ NB190_205.out _; exact BK190.out) hb_⟩; have n6_ : Aside0 ((w1_.setCell ⟨gb201, 1, none⟩ (.slice Ao326 t207.length co326)).heap[gb191]? = some (.cells #[.int .i64 0, .slice none 0 0] 52 (0, 0))) := ⟨by refine blk_far ?_ NB191_201.out _; exact ykB (g := gb191) (o := .cells #[.int .i64 0, .slice none 0 0] 52 (0, 0)) (by (with_reducible repeat (first | apply ykN | apply ykD | apply ykA)); refine blk_far ?_ NB191_205.out _; refine blk_far ?_ NB191_205.out _; exact BK191.out) hb_⟩; have n7_ : Aside0 ((w1_.setCell ⟨gb201, 1, none⟩ (.slice Ao326 t207.length co326)).heap[gb192]? = some (.cells #[.slice none 0 0] 29 (0, 0))) := ⟨by refine blk_far ?_ NB192_201.out _; exact ykB (g := gb192) (o := .cells #[.slice none 0 0] 29 (0, 0)) (by (with_reducible repeat (first | apply ykN | apply ykD | apply ykA)); refine blk_far ?_ NB192_205.out _; refine blk_far ?_ NB192_205.out _; exact BK192.out) hb_⟩; have n8_ : Aside0 ((w1_.setCell ⟨gb201, 1, none⟩ (.slice Ao326 t207.length co326)).heap[gb193]? = some (.cells #[.int .i64 0, .int .i64 0, .int .i64 0, .int .i64 0] 60 (0, 0))) := ⟨by refine blk_far ?_ NB193_201.out _; exact ykB (g := gb193) (o := .cells #[.int .i64 0, .int .i64 0, .int .i64 0, .int .i64 0] 60 (0, 0)) (by (with_reducible repeat (first | apply ykN | apply ykD | apply ykA)); refine blk_far ?_ NB193_205.out _; refine blk_far ?_ NB193_205.out _; exact BK193.out) hb_⟩; have n9_ : Aside0 ((w1_.setCell ⟨gb201, 1, none⟩ (.slice Ao326 t207.length co326)).heap[gb202]? = some (.cells #[.slice Ao525 t198.length co525] 29 (0, 0))) := ⟨by refine blk_far ?_ NB202_201.out _; exact ykB (g := gb202) (o := .cells #[.slice Ao525 t198.length co525] 29 (0, 0)) (by (with_reducible repeat (first | apply ykN | apply ykD | apply ykA)); refine blk_far ?_ NB202_205.out _; refine blk_far ?_ NB202_205.out _; exact BK202.out) hb_⟩; have n10_ : Aside0 ((w1_.setCell ⟨gb201, 1, none⟩ (.slice Ao326 t207.length co326)).heap[gb205]? = some (.cells #[.int .i64 ((rd_T64 l1 a0_0).f0), .int .i64 ((rd_T64 l1 a0_0).f1)] 64 (0, 0))) := ⟨by refine blk_far ?_ NB205_201.out _; exact ykB (g := gb205) (o := .cells #[.int .i64 ((rd_T64 l1 a0_0).f0), .int .i64 ((rd_T64 l1 a0_0).f1)] 64 (0, 0)) (by (with_reducible repeat (first | apply ykN | apply ykD | apply ykA)); refine blk_put (cs := #[.int .i64 ((rd_T64 l1 a0_0).f0), .int .i64 0]) ?_ 1 _ rfl; refine blk_put (cs := #[.int .i64 0, .int .i64 0]) ?_ 0 _ rfl; exact BK205.out) hb_⟩; have n11_ : Aside0 ((w1_.setCell ⟨gb201, 1, none⟩ (.slice Ao326 t207.length co326)).heap[gb201]? = some (.cells #[.int .i64 t194, .slice Ao326 t207.length co326] 52 (0, 0))) := ⟨blk_put (cs := #[.int .i64 t194, .slice Ao523 t195.length co523]) b201_ 1 _ rfl⟩; have n12_ : Aside0 (Below w.heap.size w (w1_.setCell ⟨gb201, 1, none⟩ (.slice Ao326 t207.length co326))) := ⟨ybS (ybT (by repeat (first | (with_reducible first | exact HB.out | apply ybA | apply ybN | apply ybD | refine ybS ?_ GE205.out) | exact HB.out)) hb_) GE201.out⟩; clear hs_ hl_ hs2_ hA_ hA2_ hl2_ b201_ lS_ lA_ bL_ sA_ hw_ hb_ HO197; clear HO200; clear BK188; clear BK189; clear BK190; clear BK191; clear BK192; clear BK193; clear BK202; clear BK205; clear BK201; clear HB; generalize (w1_.setCell ⟨gb201, 1, none⟩ (.slice Ao326 t207.length co326)) = w329 at n0_ n1_ n2_ n3_ n4_ n5_ n6_ n7_ n8_ n9_ n10_ n11_ n12_ ⊢; have HO209 := n0_; have HO200 := n1_; have HO212 := n2_; have BK188 := n3_; have BK189 := n4_; have BK190 := n5_; have BK191 := n6_; have BK192 := n7_; have BK193 := n8_; have BK202 := n9_; have BK205 := n10_; have BK201 := n11_; have HB := n12_; clear n0_ n1_ n2_ n3_ n4_ n5_ n6_ n7_ n8_ n9_ n10_ n11_ n12_; have hcy0 : w329.cell? ⟨gb201, 0, none⟩ = some (.int .i64 t194) := (ykC BK201.out 0).trans rfl; have hcy1 : w329.cell? ⟨gb201, 1, none⟩ = some (.slice Ao326 t207.length co326) := (ykC BK201.out 1).trans rfl; have hfy0 := blk_frozen BK201.out 0; have hfy1 := blk_frozen BK201.out 1) | ((with_reducible refine gate_dst (N := 18) rfl ?_); refine box_event ?hg (N := 18) ?hd (cs := #[.int .i64 0, .int .i64 0, .int .i64 0, .int .i64 0]) (t := 60) ?hr ?_; (case hd => rfl); (case hg => rfl); (case hr => first | (go_simp; done) | (go_simp; rfl)); intro gb213 hg w335 hbox hb; have n1_ := yaM (yrB (by (with_reducible repeat (first | apply yrA | apply yrN | apply yrD)); exact (yrM (Kd.R_far (p := ⟨gb201, 0, none⟩) (Kd.R_types HO200.out BK201.out (by decide)) (fun _ hk => hk.2) (.int .i64 (wrap64 (t194 + 1)))) (fun _ h_ => h_.1))) hb); have n2_ := yaM (yrB (by (with_reducible repeat (first | apply yrA | apply yrN | apply yrD)); exact (yrM (Kd.R_far (p := ⟨gb201, 0, none⟩) (Kd.R_types HO209.out BK201.out (by decide)) (fun _ hk => hk.2) (.int .i64 (wrap64 (t194 + 1)))) (fun _ h_ => h_.1))) hb); have n3_ := yaM (yrB (by (with_reducible repeat (first | apply yrA | apply yrN | apply yrD)); exact (yrM (Kd.R_far (p := ⟨gb201, 0, none⟩) (Kd.R_types HO212.out BK201.out (by decide)) (fun _ hk => hk.2) (.int .i64 (wrap64 (t194 + 1)))) (fun _ h_ => h_.1))) hb); have n4_ := yaM (ykB (g := gb188) (o := .cells #[.int .i64 a0_0, .slice A0_1 l0_1.length c0_1] 52 (0, 0)) (by (with_reducible repeat (first | apply ykN | apply ykD | apply ykA)); refine blk_far ?_ NB188_201.out _; exact BK188.out) hb); have n5_ := yaM (ykB (g := gb189) (o := .cells #[.slice A2_0 l2_0.length c2_0] 29 (0, 0)) (by (with_reducible repeat (first | apply ykN | apply ykD | apply ykA)); refine blk_far ?_ NB189_201.out _; exact BK189.out) hb); have n6_ := yaM (ykB (g := gb190) (o := .cells #[.int .i64 a3_0, .int .i64 a3_1] 32 (0, 0)) (by (with_reducible repeat (first | apply ykN | apply ykD | apply ykA)); refine blk_far ?_ NB190_201.out _; exact BK190.out) hb); have n7_ := yaM (ykB (g := gb191) (o := .cells #[.int .i64 0, .slice none 0 0] 52 (0, 0)) (by (with_reducible repeat (first | apply ykN | apply ykD | apply ykA)); refine blk_far ?_ NB191_201.out _; exact BK191.out) hb); have n8_ := yaM (ykB (g := gb192) (o := .cells #[.slice none 0 0] 29 (0, 0)) (by (with_reducible repeat (first | apply ykN | apply ykD | apply ykA)); refine blk_far ?_ NB192_201.out _; exact BK192.out) hb); have n9_ := yaM (ykB (g := gb193) (o := .cells #[.int .i64 0, .int .i64 0, .int .i64 0, .int .i64 0] 60 (0, 0)) (by (with_reducible repeat (first | apply ykN | apply ykD | apply ykA)); refine blk_far ?_ NB193_201.out _; exact BK193.out) hb); have n10_ := yaM (ykB (g := gb201) (o := .cells #[.int .i64 (wrap64 (t194 + 1)), .slice Ao326 t207.length co326] 52 (0, 0)) (by (with_reducible repeat (first | apply ykN | apply ykD | apply ykA)); refine blk_put (cs := #[.int .i64 t194, .slice Ao326 t207.length co326]) ?_ 0 _ rfl; exact BK201.out) hb); have n11_ := yaM (ykB (g := gb202) (o := .cells #[.slice Ao525 t198.length co525] 29 (0, 0)) (by (with_reducible repeat (first | apply ykN | apply ykD | apply ykA)); refine blk_far ?_ NB202_201.out _; exact BK202.out) hb); have n12_ := yaM (ykB (g := gb205) (o := .cells #[.int .i64 ((rd_T64 l1 a0_0).f0), .int .i64 ((rd_T64 l1 a0_0).f1)] 64 (0, 0)) (by (with_reducible repeat (first | apply ykN | apply ykD | apply ykA)); refine blk_far ?_ NB205_201.out _; exact BK205.out) hb); have n13_ := yaM (ybT (by repeat (first | (with_reducible first | exact HB.out | apply ybA | apply ybN | apply ybD | refine ybS ?_ GE191.out | refine ybS ?_ GE192.out | refine ybS ?_ GE193.out | refine ybS ?_ GE201.out | refine ybS ?_ GE202.out | refine ybS ?_ GE205.out) | exact HB.out)) hb); have n14_ := yaM (hbox); have n15_ := yaM ((by rw [hg]; exact (ybZ (by repeat (first | (with_reducible first | exact HB.out | apply ybA | apply ybN | apply ybD | refine ybS ?_ GE191.out | refine ybS ?_ GE192.out | refine ybS ?_ GE193.out | refine ybS ?_ GE201.out | refine ybS ?_ GE202.out | refine ybS ?_ GE205.out) | exact HB.out))) : w.heap.size ≤ gb213)); have n16_ := yaM ((by rw [hg]; exact (ybZ (by repeat (first | (with_reducible first | exact HB.out | apply ybA | apply ybN | apply ybD | refine ybS ?_ GE191.out | refine ybS ?_ GE192.out | refine ybS ?_ GE193.out | refine ybS ?_ GE201.out | refine ybS ?_ GE202.out | refine ybS ?_ GE205.out) | exact HB.out))) : w.heap.size ≤ gb213)); have n17_ := yaM ((by rw [hg]; exact Nat.ne_of_lt (ykL (g := gb188) (o := .cells #[.int .i64 a0_0, .slice A0_1 l0_1.length c0_1] 52 (0, 0)) (by (with_reducible repeat (first | apply ykN | apply ykD | apply ykA)); refine blk_far ?_ NB188_201.out _; exact BK188.out)) : gb188 ≠ gb213)); have n18_ := yaM ((by rw [hg]; exact Nat.ne_of_gt (ykL (g := gb188) (o := .cells #[.int .i64 a0_0, .slice A0_1 l0_1.length c0_1] 52 (0, 0)) (by (with_reducible repeat (first | apply ykN | apply ykD | apply ykA)); refine blk_far ?_ NB188_201.out _; exact BK188.out)) : gb213 ≠ gb188)); have n19_ := yaM ((by rw [hg]; exact Nat.ne_of_lt (ykL (g := gb189) (o := .cells #[.slice A2_0 l2_0.length c2_0] 29 (0, 0)) (by (with_reducible repeat (first | apply ykN | apply ykD | apply ykA)); refine blk_far ?_ NB189_201.out _; exact BK189.out)) : gb189 ≠ gb213)); have n20_ := yaM ((by rw [hg]; exact Nat.ne_of_gt (ykL (g := gb189) (o := .cells #[.slice A2_0 l2_0.length c2_0] 29 (0, 0)) (by (with_reducible repeat (first | apply ykN | apply ykD | apply ykA)); refine blk_far ?_ NB189_201.out _; exact BK189.out)) : gb213 ≠ gb189)); have n21_ := yaM ((by rw [hg]; exact Nat.ne_of_lt (ykL (g := gb190) (o := .cells #[.int .i64 a3_0, .int .i64 a3_1] 32 (0, 0)) (by (with_reducible repeat (first | apply ykN | apply ykD | apply ykA)); refine blk_far ?_ NB190_201.out _; exact BK190.out)) : gb190 ≠ gb213)); have n22_ := yaM ((by rw [hg]; exact Nat.ne_of_gt (ykL (g := gb190) (o := .cells #[.int .i64 a3_0, .int .i64 a3_1] 32 (0, 0)) (by (with_reducible repeat (first | apply ykN | apply ykD | apply ykA)); refine blk_far ?_ NB190_201.out _; exact BK190.out)) : gb213 ≠ gb190)); have n23_ := yaM ((by rw [hg]; exact Nat.ne_of_lt (ykL (g := gb191) (o := .cells #[.int .i64 0, .slice none 0 0] 52 (0, 0)) (by (with_reducible repeat (first | apply ykN | apply ykD | apply ykA)); refine blk_far ?_ NB191_201.out _; exact BK191.out)) : gb191 ≠ gb213)); have n24_ := yaM ((by rw [hg]; exact Nat.ne_of_gt (ykL (g := gb191) (o := .cells #[.int .i64 0, .slice none 0 0] 52 (0, 0)) (by (with_reducible repeat (first | apply ykN | apply ykD | apply ykA)); refine blk_far ?_ NB191_201.out _; exact BK191.out)) : gb213 ≠ gb191)); have n25_ := yaM ((by rw [hg]; exact Nat.ne_of_lt (ykL (g := gb192) (o := .cells #[.slice none 0 0] 29 (0, 0)) (by (with_reducible repeat (first | apply ykN | apply ykD | apply ykA)); refine blk_far ?_ NB192_201.out _; exact BK192.out)) : gb192 ≠ gb213)); have n26_ := yaM ((by rw [hg]; exact Nat.ne_of_gt (ykL (g := gb192) (o := .cells #[.slice none 0 0] 29 (0, 0)) (by (with_reducible repeat (first | apply ykN | apply ykD | apply ykA)); refine blk_far ?_ NB192_201.out _; exact BK192.out)) : gb213 ≠ gb192)); have n27_ := yaM ((by rw [hg]; exact Nat.ne_of_lt (ykL (g := gb193) (o := .cells #[.int .i64 0, .int .i64 0, .int .i64 0, .int .i64 0] 60 (0, 0)) (by (with_reducible repeat (first | apply ykN | apply ykD | apply ykA)); refine blk_far ?_ NB193_201.out _; exact BK193.out)) : gb193 ≠ gb213)); have n28_ := yaM ((by rw [hg]; exact Nat.ne_of_gt (ykL (g := gb193) (o := .cells #[.int .i64 0, .int .i64 0, .int .i64 0, .int .i64 0] 60 (0, 0)) (by (with_reducible repeat (first | apply ykN | apply ykD | apply ykA)); refine blk_far ?_ NB193_201.out _; exact BK193.out)) : gb213 ≠ gb193)); have n29_ := yaM ((by rw [hg]; exact Nat.ne_of_lt (ykL (g := gb201) (o := .cells #[.int .i64 (wrap64 (t194 + 1)), .slice Ao326 t207.length co326] 52 (0, 0)) (by (with_reducible repeat (first | apply ykN | apply ykD | apply ykA)); refine blk_put (cs := #[.int .i64 t194, .slice Ao326 t207.length co326]) ?_ 0 _ rfl; exact BK201.out)) : gb201 ≠ gb213)); have n30_ := yaM ((by rw [hg]; exact Nat.ne_of_gt (ykL (g := gb201) (o := .cells #[.int .i64 (wrap64 (t194 + 1)), .slice Ao326 t207.length co326] 52 (0, 0)) (by (with_reducible repeat (first | apply ykN | apply ykD | apply ykA)); refine blk_put (cs := #[.int .i64 t194, .slice Ao326 t207.length co326]) ?_ 0 _ rfl; exact BK201.out)) : gb213 ≠ gb201)); have n31_ := yaM ((by rw [hg]; exact Nat.ne_of_lt (ykL (g := gb202) (o := .cells #[.slice Ao525 t198.length co525] 29 (0, 0)) (by (with_reducible repeat (first | apply ykN | apply ykD | apply ykA)); refine blk_far ?_ NB202_201.out _; exact BK202.out)) : gb202 ≠ gb213)); have n32_ := yaM ((by rw [hg]; exact Nat.ne_of_gt (ykL (g := gb202) (o := .cells #[.slice Ao525 t198.length co525] 29 (0, 0)) (by (with_reducible repeat (first | apply ykN | apply ykD | apply ykA)); refine blk_far ?_ NB202_201.out _; exact BK202.out)) : gb213 ≠ gb202)); have n33_ := yaM ((by rw [hg]; exact Nat.ne_of_lt (ykL (g := gb205) (o := .cells #[.int .i64 ((rd_T64 l1 a0_0).f0), .int .i64 ((rd_T64 l1 a0_0).f1)] 64 (0, 0)) (by (with_reducible repeat (first | apply ykN | apply ykD | apply ykA)); refine blk_far ?_ NB205_201.out _; exact BK205.out)) : gb205 ≠ gb213)); have n34_ := yaM ((by rw [hg]; exact Nat.ne_of_gt (ykL (g := gb205) (o := .cells #[.int .i64 ((rd_T64 l1 a0_0).f0), .int .i64 ((rd_T64 l1 a0_0).f1)] 64 (0, 0)) (by (with_reducible repeat (first | apply ykN | apply ykD | apply ykA)); refine blk_far ?_ NB205_201.out _; exact BK205.out)) : gb213 ≠ gb205)); clear HO200; clear HO209; clear HO212; clear BK188; clear BK189; clear BK190; clear BK191; clear BK192; clear BK193; clear BK201; clear BK202; clear BK205; clear HB; have HO200 := n1_; have HO209 := n2_; have HO212 := n3_; have BK188 := n4_; have BK189 := n5_; have BK190 := n6_; have BK191 := n7_; have BK192 := n8_; have BK193 := n9_; have BK201 := n10_; have BK202 := n11_; have BK205 := n12_; have HB := n13_; have BK213 := n14_; have GW213 := n15_; have GE213 := n16_; have NB188_213 := n17_; have NB213_188 := n18_; have NB189_213 := n19_; have NB213_189 := n20_; have NB190_213 := n21_; have NB213_190 := n22_; have NB191_213 := n23_; have NB213_191 := n24_; have NB192_213 := n25_; have NB213_192 := n26_; have NB193_213 := n27_; have NB213_193 := n28_; have NB201_213 := n29_; have NB213_201 := n30_; have NB202_213 := n31_; have NB213_202 := n32_; have NB205_213 := n33_; have NB213_205 := n34_; clear n1_ n2_ n3_ n4_ n5_ n6_ n7_ n8_ n9_ n10_ n11_ n12_ n13_ n14_ n15_ n16_ n17_ n18_ n19_ n20_ n21_ n22_ n23_ n24_ n25_ n26_ n27_ n28_ n29_ n30_ n31_ n32_ n33_ n34_; clear hb hbox hg; have hnb336 := NB213_188.out; have hnc336 := NB188_213.out; have hnb337 := NB213_189.out; have hnc337 := NB189_213.out; have hnb338 := NB213_190.out; have hnc338 := NB190_213.out; have hnb339 := NB213_191.out; have hnc339 := NB191_213.out; have hnb340 := NB213_192.out; have hnc340 := NB192_213.out; have hnb341 := NB213_193.out; have hnc341 := NB193_213.out; have hnb342 := NB213_201.out; have hnc342 := NB201_213.out; have hnb343 := NB213_202.out; have hnc343 := NB202_213.out; have hnb344 := NB213_205.out; have hnc344 := NB205_213.out; have hcz345_0 : w335.cell? ⟨gb213, 0, none⟩ = some (.int .i64 0) := (ykC BK213.out 0).trans rfl; have hcz345_1 : w335.cell? ⟨gb213, 1, none⟩ = some (.int .i64 0) := (ykC BK213.out 1).trans rfl; have hcz345_2 : w335.cell? ⟨gb213, 2, none⟩ = some (.int .i64 0) := (ykC BK213.out 2).trans rfl; have hcz345_3 : w335.cell? ⟨gb213, 3, none⟩ = some (.int .i64 0) := (ykC BK213.out 3).trans rfl; have hfz345_0 := blk_frozen BK213.out 0; have hfz345_1 := blk_frozen BK213.out 1; have hfz345_2 := blk_frozen BK213.out 2; have hfz345_3 := blk_frozen BK213.out 3; have hcz346_0 : w335.cell? ⟨gb205, 0, none⟩ = some (.int .i64 ((rd_T64 l1 a0_0).f0)) := (ykC BK205.out 0).trans rfl; have hcz346_1 : w335.cell? ⟨gb205, 1, none⟩ = some (.int .i64 ((rd_T64 l1 a0_0).f1)) := (ykC BK205.out 1).trans rfl; have hfz346_0 := blk_frozen BK205.out 0; have hfz346_1 := blk_frozen BK205.out 1))
  have n0_ := yaM (Kd.R_set (Kd.R_set (Kd.R_set (Kd.R_set HO209.out BK213.out (by decide) 0 (.int .i64 0)) (blk_put (cs := #[.int .i64 0, .int .i64 0, .int .i64 0, .int .i64 0]) BK213.out 0 (.int .i64 0) rfl) (by decide) 1 (.int .i64 0)) (blk_put (cs := #[.int .i64 0, .int .i64 0, .int .i64 0, .int .i64 0]) (blk_put (cs := #[.int .i64 0, .int .i64 0, .int .i64 0, .int .i64 0]) BK213.out 0 (.int .i64 0) rfl) 1 (.int .i64 0) rfl) (by decide) 2 (.int .i64 0)) (blk_put (cs := #[.int .i64 0, .int .i64 0, .int .i64 0, .int .i64 0]) (blk_put (cs := #[.int .i64 0, .int .i64 0, .int .i64 0, .int .i64 0]) (blk_put (cs := #[.int .i64 0, .int .i64 0, .int .i64 0, .int .i64 0]) BK213.out 0 (.int .i64 0) rfl) 1 (.int .i64 0) rfl) 2 (.int .i64 0) rfl) (by decide) 3 (.int .i64 0))
  have n1_ := yaM (Kd.R_set (Kd.R_set (Kd.R_set (Kd.R_set HO200.out BK213.out (by decide) 0 (.int .i64 0)) (blk_put (cs := #[.int .i64 0, .int .i64 0, .int .i64 0, .int .i64 0]) BK213.out 0 (.int .i64 0) rfl) (by decide) 1 (.int .i64 0)) (blk_put (cs := #[.int .i64 0, .int .i64 0, .int .i64 0, .int .i64 0]) (blk_put (cs := #[.int .i64 0, .int .i64 0, .int .i64 0, .int .i64 0]) BK213.out 0 (.int .i64 0) rfl) 1 (.int .i64 0) rfl) (by decide) 2 (.int .i64 0)) (blk_put (cs := #[.int .i64 0, .int .i64 0, .int .i64 0, .int .i64 0]) (blk_put (cs := #[.int .i64 0, .int .i64 0, .int .i64 0, .int .i64 0]) (blk_put (cs := #[.int .i64 0, .int .i64 0, .int .i64 0, .int .i64 0]) BK213.out 0 (.int .i64 0) rfl) 1 (.int .i64 0) rfl) 2 (.int .i64 0) rfl) (by decide) 3 (.int .i64 0))
  have n2_ := yaM (Kd.R_set (Kd.R_set (Kd.R_set (Kd.R_set HO212.out BK213.out (by decide) 0 (.int .i64 0)) (blk_put (cs := #[.int .i64 0, .int .i64 0, .int .i64 0, .int .i64 0]) BK213.out 0 (.int .i64 0) rfl) (by decide) 1 (.int .i64 0)) (blk_put (cs := #[.int .i64 0, .int .i64 0, .int .i64 0, .int .i64 0]) (blk_put (cs := #[.int .i64 0, .int .i64 0, .int .i64 0, .int .i64 0]) BK213.out 0 (.int .i64 0) rfl) 1 (.int .i64 0) rfl) (by decide) 2 (.int .i64 0)) (blk_put (cs := #[.int .i64 0, .int .i64 0, .int .i64 0, .int .i64 0]) (blk_put (cs := #[.int .i64 0, .int .i64 0, .int .i64 0, .int .i64 0]) (blk_put (cs := #[.int .i64 0, .int .i64 0, .int .i64 0, .int .i64 0]) BK213.out 0 (.int .i64 0) rfl) 1 (.int .i64 0) rfl) 2 (.int .i64 0) rfl) (by decide) 3 (.int .i64 0))
  have n3_ : Aside0 (((((w335.setCell ⟨gb213, 0, none⟩ (.int .i64 0)).setCell ⟨gb213, 1, none⟩ (.int .i64 0)).setCell ⟨gb213, 2, none⟩ (.int .i64 0)).setCell ⟨gb213, 3, none⟩ (.int .i64 0)).heap[gb188]? = some (.cells #[.int .i64 a0_0, .slice A0_1 l0_1.length c0_1] 52 (0, 0))) := ⟨by refine blk_far ?_ NB188_213.out _; refine blk_far ?_ NB188_213.out _; refine blk_far ?_ NB188_213.out _; refine blk_far ?_ NB188_213.out _; exact BK188.out⟩
  have n4_ : Aside0 (((((w335.setCell ⟨gb213, 0, none⟩ (.int .i64 0)).setCell ⟨gb213, 1, none⟩ (.int .i64 0)).setCell ⟨gb213, 2, none⟩ (.int .i64 0)).setCell ⟨gb213, 3, none⟩ (.int .i64 0)).heap[gb189]? = some (.cells #[.slice A2_0 l2_0.length c2_0] 29 (0, 0))) := ⟨by refine blk_far ?_ NB189_213.out _; refine blk_far ?_ NB189_213.out _; refine blk_far ?_ NB189_213.out _; refine blk_far ?_ NB189_213.out _; exact BK189.out⟩
  have n5_ : Aside0 (((((w335.setCell ⟨gb213, 0, none⟩ (.int .i64 0)).setCell ⟨gb213, 1, none⟩ (.int .i64 0)).setCell ⟨gb213, 2, none⟩ (.int .i64 0)).setCell ⟨gb213, 3, none⟩ (.int .i64 0)).heap[gb190]? = some (.cells #[.int .i64 a3_0, .int .i64 a3_1] 32 (0, 0))) := ⟨by refine blk_far ?_ NB190_213.out _; refine blk_far ?_ NB190_213.out _; refine blk_far ?_ NB190_213.out _; refine blk_far ?_ NB190_213.out _; exact BK190.out⟩
  have n6_ : Aside0 (((((w335.setCell ⟨gb213, 0, none⟩ (.int .i64 0)).setCell ⟨gb213, 1, none⟩ (.int .i64 0)).setCell ⟨gb213, 2, none⟩ (.int .i64 0)).setCell ⟨gb213, 3, none⟩ (.int .i64 0)).heap[gb191]? = some (.cells #[.int .i64 0, .slice none 0 0] 52 (0, 0))) := ⟨by refine blk_far ?_ NB191_213.out _; refine blk_far ?_ NB191_213.out _; refine blk_far ?_ NB191_213.out _; refine blk_far ?_ NB191_213.out _; exact BK191.out⟩
  have n7_ : Aside0 (((((w335.setCell ⟨gb213, 0, none⟩ (.int .i64 0)).setCell ⟨gb213, 1, none⟩ (.int .i64 0)).setCell ⟨gb213, 2, none⟩ (.int .i64 0)).setCell ⟨gb213, 3, none⟩ (.int .i64 0)).heap[gb192]? = some (.cells #[.slice none 0 0] 29 (0, 0))) := ⟨by refine blk_far ?_ NB192_213.out _; refine blk_far ?_ NB192_213.out _; refine blk_far ?_ NB192_213.out _; refine blk_far ?_ NB192_213.out _; exact BK192.out⟩
  have n8_ : Aside0 (((((w335.setCell ⟨gb213, 0, none⟩ (.int .i64 0)).setCell ⟨gb213, 1, none⟩ (.int .i64 0)).setCell ⟨gb213, 2, none⟩ (.int .i64 0)).setCell ⟨gb213, 3, none⟩ (.int .i64 0)).heap[gb193]? = some (.cells #[.int .i64 0, .int .i64 0, .int .i64 0, .int .i64 0] 60 (0, 0))) := ⟨by refine blk_far ?_ NB193_213.out _; refine blk_far ?_ NB193_213.out _; refine blk_far ?_ NB193_213.out _; refine blk_far ?_ NB193_213.out _; exact BK193.out⟩
  have n9_ : Aside0 (((((w335.setCell ⟨gb213, 0, none⟩ (.int .i64 0)).setCell ⟨gb213, 1, none⟩ (.int .i64 0)).setCell ⟨gb213, 2, none⟩ (.int .i64 0)).setCell ⟨gb213, 3, none⟩ (.int .i64 0)).heap[gb201]? = some (.cells #[.int .i64 (wrap64 (t194 + 1)), .slice Ao326 t207.length co326] 52 (0, 0))) := ⟨by refine blk_far ?_ NB201_213.out _; refine blk_far ?_ NB201_213.out _; refine blk_far ?_ NB201_213.out _; refine blk_far ?_ NB201_213.out _; exact BK201.out⟩
  have n10_ : Aside0 (((((w335.setCell ⟨gb213, 0, none⟩ (.int .i64 0)).setCell ⟨gb213, 1, none⟩ (.int .i64 0)).setCell ⟨gb213, 2, none⟩ (.int .i64 0)).setCell ⟨gb213, 3, none⟩ (.int .i64 0)).heap[gb202]? = some (.cells #[.slice Ao525 t198.length co525] 29 (0, 0))) := ⟨by refine blk_far ?_ NB202_213.out _; refine blk_far ?_ NB202_213.out _; refine blk_far ?_ NB202_213.out _; refine blk_far ?_ NB202_213.out _; exact BK202.out⟩
  have n11_ : Aside0 (((((w335.setCell ⟨gb213, 0, none⟩ (.int .i64 0)).setCell ⟨gb213, 1, none⟩ (.int .i64 0)).setCell ⟨gb213, 2, none⟩ (.int .i64 0)).setCell ⟨gb213, 3, none⟩ (.int .i64 0)).heap[gb205]? = some (.cells #[.int .i64 ((rd_T64 l1 a0_0).f0), .int .i64 ((rd_T64 l1 a0_0).f1)] 64 (0, 0))) := ⟨by refine blk_far ?_ NB205_213.out _; refine blk_far ?_ NB205_213.out _; refine blk_far ?_ NB205_213.out _; refine blk_far ?_ NB205_213.out _; exact BK205.out⟩
  have n12_ : Aside0 (((((w335.setCell ⟨gb213, 0, none⟩ (.int .i64 0)).setCell ⟨gb213, 1, none⟩ (.int .i64 0)).setCell ⟨gb213, 2, none⟩ (.int .i64 0)).setCell ⟨gb213, 3, none⟩ (.int .i64 0)).heap[gb213]? = some (.cells #[.int .i64 0, .int .i64 0, .int .i64 0, .int .i64 0] 60 (0, 0))) := ⟨by refine blk_put (cs := #[.int .i64 0, .int .i64 0, .int .i64 0, .int .i64 0]) ?_ 3 _ rfl; refine blk_put (cs := #[.int .i64 0, .int .i64 0, .int .i64 0, .int .i64 0]) ?_ 2 _ rfl; refine blk_put (cs := #[.int .i64 0, .int .i64 0, .int .i64 0, .int .i64 0]) ?_ 1 _ rfl; refine blk_put (cs := #[.int .i64 0, .int .i64 0, .int .i64 0, .int .i64 0]) ?_ 0 _ rfl; exact BK213.out⟩
  have n13_ : Aside0 (Below w.heap.size w ((((w335.setCell ⟨gb213, 0, none⟩ (.int .i64 0)).setCell ⟨gb213, 1, none⟩ (.int .i64 0)).setCell ⟨gb213, 2, none⟩ (.int .i64 0)).setCell ⟨gb213, 3, none⟩ (.int .i64 0))) := ⟨ybS (ybS (ybS (ybS HB.out GE213.out) GE213.out) GE213.out) GE213.out⟩
  clear HO209 HO200 HO212 BK188 BK189 BK190 BK191 BK192 BK193 BK201 BK202 BK205 BK213 HB
  generalize ((((w335.setCell ⟨gb213, 0, none⟩ (.int .i64 0)).setCell ⟨gb213, 1, none⟩ (.int .i64 0)).setCell ⟨gb213, 2, none⟩ (.int .i64 0)).setCell ⟨gb213, 3, none⟩ (.int .i64 0)) = wb at n0_ n1_ n2_ n3_ n4_ n5_ n6_ n7_ n8_ n9_ n10_ n11_ n12_ n13_ ⊢
  have HO209 := n0_
  have HO200 := n1_
  have HO212 := n2_
  have BK188 := n3_
  have BK189 := n4_
  have BK190 := n5_
  have BK191 := n6_
  have BK192 := n7_
  have BK193 := n8_
  have BK201 := n9_
  have BK202 := n10_
  have BK205 := n11_
  have BK213 := n12_
  have HB := n13_
  clear n0_ n1_ n2_ n3_ n4_ n5_ n6_ n7_ n8_ n9_ n10_ n11_ n12_ n13_
  have e3_ := HI.out.1.symm
  have e4_ := HI.out.2.1.symm
  have e5_ := HI.out.2.2.1.symm
  have e6_ := HI.out.2.2.2.1.symm
  have e7_ := HI.out.2.2.2.2.1.symm
  have HJ := yaM HI.out.2.2.2.2.2
  clear HI
  subst e3_ e4_ e5_ e6_ e7_
  go_cut [] (fun wc => ∃ st_ : Value, Aside0 (Kd.R (Kd.int .i64) 3 wc w.heap.size (fun k_ => True ∧ some k_ ≠ (.slice Ao525 t198.length co525 : Value).ownBlock) st_ r2) ∧ Aside0 (Kd.R (Kd.int .i64) 3 wc w.heap.size (fun k_ => True ∧ some k_ ≠ (st_ : Value).ownBlock) (.slice Ao525 t198.length co525) t198) ∧ Aside0 (wc.heap[gb188]? = some (.cells #[.int .i64 a0_0, .slice A0_1 l0_1.length c0_1] 52 (0, 0))) ∧ Aside0 (wc.heap[gb189]? = some (.cells #[.slice A2_0 l2_0.length c2_0] 29 (0, 0))) ∧ Aside0 (wc.heap[gb190]? = some (.cells #[.int .i64 a3_0, .int .i64 a3_1] 32 (0, 0))) ∧ Aside0 (wc.heap[gb191]? = some (.cells #[.int .i64 0, .slice none 0 0] 52 (0, 0))) ∧ Aside0 (wc.heap[gb192]? = some (.cells #[.slice none 0 0] 29 (0, 0))) ∧ Aside0 (wc.heap[gb193]? = some (.cells #[.int .i64 0, .int .i64 0, .int .i64 0, .int .i64 0] 60 (0, 0))) ∧ Aside0 (wc.heap[gb202]? = some (.cells #[.slice Ao525 t198.length co525] 29 (0, 0))) ∧ Aside0 (wc.heap[gb205]? = some (.cells #[.int .i64 ((rd_T64 l1 a0_0).f0), .int .i64 ((rd_T64 l1 a0_0).f1)] 64 (0, 0))) ∧ Aside0 (wc.heap[gb213]? = some (.cells #[.int .i64 0, .int .i64 0, .int .i64 0, .int .i64 0] 60 (0, 0))) ∧ Aside0 (wc.heap[gb201]? = some (.cells #[.int .i64 r1, st_] 52 (0, 0))) ∧ Aside0 (Below w.heap.size w wc))
  case first =>
   have hop := HJ.out
   clear HJ
   have hz0 : wb.cell? ⟨gb205, 0, none⟩ = some (.int .i64 ((rd_T64 l1 a0_0).f0)) := (ykC BK205.out 0).trans rfl
   have hz1 : wb.cell? ⟨gb205, 1, none⟩ = some (.int .i64 ((rd_T64 l1 a0_0).f1)) := (ykC BK205.out 1).trans rfl
   have hz2 : wb.cell? ⟨gb201, 0, none⟩ = some (.int .i64 (wrap64 (t194 + 1))) := (ykC BK201.out 0).trans rfl
   have hz3 : wb.cell? ⟨gb201, 1, none⟩ = some (.slice Ao326 t207.length co326) := (ykC BK201.out 1).trans rfl
   have hf2 := blk_frozen BK201.out 0
   have hf3 := blk_frozen BK201.out 1
   rcases hop with ⟨c, hL, e1, e2⟩ | ⟨c, e1, e2⟩ | ⟨c, hl, cz, e1, e2⟩ | ⟨c, hl, cz, e1, e2⟩ | ⟨c, hL, tt, ht, e1, e2⟩
   ·have q1_ : (((rd_T64 l1 a0_0).f0) == 1) = true := by rw [c]; rfl
    have HL := yaM hL
    clear hL
    go_wp2_with (first | ((with_reducible refine gate_callee (f := 71) rfl ?_); refine goesL_ (some 54) rfl rfl Try.func71 (by kernel_rfl) rfl #[.pointer (some ⟨gb201, 0, none⟩), .int .i64 ((rd_T64 l1 a0_0).f1)] rfl (by (try simp only [List.map_toArray, List.map_cons, List.map_nil]); first | done | rfl) ?_; (with_reducible refine (impl_put.calls w gb201 (wrap64 (t194 + 1)) ((rd_T64 l1 a0_0).f1) (.slice Ao326 t207.length co326) t207 (fun k_ => some k_ ≠ (v211 : Value).ownBlock ∧ some k_ ≠ (.slice Ao525 t198.length co525 : Value).ownBlock) _ ?s1 ?s2 ?s3 ?s4 ?s5).mono ?_); (case s1 => (with_reducible repeat (first | refine ykN ?_ _ | refine ykD ?_)); exact BK201.out); (case s2 => (with_reducible repeat (first | apply yrN | apply yrD)); exact HO209.out); (case s3 => exact (by repeat (first | (with_reducible first | exact HB.out | apply ybN | apply ybD) | exact HB.out))); (case s4 => exact fun k_ hk_ => ⟨fun e_ => Nat.lt_irrefl _ (Nat.lt_of_lt_of_le (yrL HO212.out k_ e_.symm) (Nat.le_trans (by simp) hk_)), fun e_ => Nat.lt_irrefl _ (Nat.lt_of_lt_of_le (yrL HO200.out k_ e_.symm) (Nat.le_trans (by simp) hk_))⟩); (case s5 => exact HL.out); rintro e wp_ ⟨rfl, v1_, w2_, rfl, ho_, hb_, hg_⟩; refine ⟨_, rfl, ?_⟩; have HP1 := yaM ho_; have HP2 := yaM hb_; have HP3 : Aside0 (∀ (h : Nat) (o : Obj), wb.heap[h]? = some o → some h ≠ (.slice Ao326 t207.length co326 : Value).ownBlock → w2_.heap[h]? = some o) := ⟨fun h o x1 x2 => hg_ h o (by (with_reducible repeat (first | refine ykN ?_ _ | refine ykD ?_)); exact x1) x2⟩; clear ho_ hb_ hg_))
    go_meet
    case rel => exact ⟨v1_, ⟨by rw [e2]; exact yrM (Kd.R_set HP1.out (HP3.out _ _ BK201.out (yrE HO209.out BK201.out (by decide))) (by decide) 1 v1_) (fun _ hk => ⟨trivial, hk.2⟩)⟩, ⟨Kd.R_set (Kd.R_reok (ok := fun k_ => True ∧ some k_ ≠ (v1_ : Value).ownBlock) rfl (Kd.R_step (w1 := w2_) HO200.out (fun k_ hk_ hl_ => (HP3.out k_ _ (Array.getElem?_eq_getElem hl_) hk_.2).trans (Array.getElem?_eq_getElem hl_).symm)) (fun k_ e_ => ⟨trivial, fun e2_ => (HP1.out.1 k_ e2_.symm).2 e_.symm⟩)) (HP3.out _ _ BK201.out (yrE HO209.out BK201.out (by decide))) (by decide) 1 v1_⟩, ⟨blk_far (HP3.out _ _ BK188.out (yrE HO209.out BK188.out (by decide))) NB188_201.out _⟩, ⟨blk_far (HP3.out _ _ BK189.out (yrE HO209.out BK189.out (by decide))) NB189_201.out _⟩, ⟨blk_far (HP3.out _ _ BK190.out (yrE HO209.out BK190.out (by decide))) NB190_201.out _⟩, ⟨blk_far (HP3.out _ _ BK191.out (yrE HO209.out BK191.out (by decide))) NB191_201.out _⟩, ⟨blk_far (HP3.out _ _ BK192.out (yrE HO209.out BK192.out (by decide))) NB192_201.out _⟩, ⟨blk_far (HP3.out _ _ BK193.out (yrE HO209.out BK193.out (by decide))) NB193_201.out _⟩, ⟨blk_far (HP3.out _ _ BK202.out (yrE HO209.out BK202.out (by decide))) NB202_201.out _⟩, ⟨blk_far (HP3.out _ _ BK205.out (yrE HO209.out BK205.out (by decide))) NB205_201.out _⟩, ⟨blk_far (HP3.out _ _ BK213.out (yrE HO209.out BK213.out (by decide))) NB213_201.out _⟩, ⟨by rw [e1]; exact blk_put (cs := #[.int .i64 (wrap64 (t194 + 1)), .slice Ao326 t207.length co326]) (HP3.out _ _ BK201.out (yrE HO209.out BK201.out (by decide))) 1 _ rfl⟩, ⟨ybS HP2.out GE201.out⟩⟩
   ·have q1_ : (((rd_T64 l1 a0_0).f0) == 1) = false := by rw [c]; rfl
    have q2_ : (((rd_T64 l1 a0_0).f0) == 2) = false := by rw [c]; rfl
    have q3_ : (((rd_T64 l1 a0_0).f0) == 3) = false := by rw [c]; rfl
    have q4_ : (((rd_T64 l1 a0_0).f0) == 4) = false := by rw [c]; rfl
    have q5_ : (((rd_T64 l1 a0_0).f0) == 5) = false := by rw [c]; rfl
    have q6_ : (((rd_T64 l1 a0_0).f0) == 6) = false := by rw [c]; rfl
    have q7_ : (((rd_T64 l1 a0_0).f0) == 7) = false := by rw [c]; rfl
    have q8_ : (((rd_T64 l1 a0_0).f0) == 8) = false := by rw [c]; rfl
    have q9_ : (((rd_T64 l1 a0_0).f0) == 9) = true := by rw [c]; rfl
    obtain ⟨ji, hji⟩ : ∃ j_ : Int, mn ((rd_T64 l1 a0_0).f1) 60 = j_ := ⟨_, rfl⟩
    have hji_ : (if 60 < ((rd_T64 l1 a0_0).f1) then 60 else ((rd_T64 l1 a0_0).f1)) = ji := hji
    replace e1 := e1.trans hji
    go_wp2
    go_meet
    case rel => exact ⟨.slice Ao326 t207.length co326, ⟨by rw [e2]; exact yrM (Kd.R_set HO209.out BK201.out (by decide) 0 (.int .i64 ji)) (fun _ hk => ⟨trivial, hk.2⟩)⟩, ⟨yrM (Kd.R_set HO200.out BK201.out (by decide) 0 (.int .i64 ji)) (fun _ hk => ⟨trivial, hk.2⟩)⟩, ⟨blk_far BK188.out NB188_201.out _⟩, ⟨blk_far BK189.out NB189_201.out _⟩, ⟨blk_far BK190.out NB190_201.out _⟩, ⟨blk_far BK191.out NB191_201.out _⟩, ⟨blk_far BK192.out NB192_201.out _⟩, ⟨blk_far BK193.out NB193_201.out _⟩, ⟨blk_far BK202.out NB202_201.out _⟩, ⟨blk_far BK205.out NB205_201.out _⟩, ⟨blk_far BK213.out NB213_201.out _⟩, ⟨by rw [e1]; exact blk_put (cs := #[.int .i64 (wrap64 (t194 + 1)), .slice Ao326 t207.length co326]) BK201.out 0 _ rfl⟩, ⟨ybS HB.out GE201.out⟩⟩
   ·have q1_ : (((rd_T64 l1 a0_0).f0) == 1) = false := by rw [c]; rfl
    have q2_ : (((rd_T64 l1 a0_0).f0) == 2) = false := by rw [c]; rfl
    have q3_ : (((rd_T64 l1 a0_0).f0) == 3) = false := by rw [c]; rfl
    have q4_ : (((rd_T64 l1 a0_0).f0) == 4) = false := by rw [c]; rfl
    have q5_ : (((rd_T64 l1 a0_0).f0) == 5) = false := by rw [c]; rfl
    have q6_ : (((rd_T64 l1 a0_0).f0) == 6) = false := by rw [c]; rfl
    have q7_ : (((rd_T64 l1 a0_0).f0) == 7) = false := by rw [c]; rfl
    have q8_ : (((rd_T64 l1 a0_0).f0) == 8) = false := by rw [c]; rfl
    have q9_ : (((rd_T64 l1 a0_0).f0) == 9) = false := by rw [c]; rfl
    have q10_ : (((rd_T64 l1 a0_0).f0) == 10) = true := by rw [c]; rfl
    obtain ⟨ji, hji⟩ : ∃ j_ : Int, mn ((rd_T64 l1 a0_0).f1) 60 = j_ := ⟨_, rfl⟩
    have hji_ : (if 60 < ((rd_T64 l1 a0_0).f1) then 60 else ((rd_T64 l1 a0_0).f1)) = ji := hji
    replace e1 := e1.trans hji
    obtain ⟨AL_, cL_, eL_⟩ := Kd.R_slice HO212.out
    subst eL_
    have p0_ : 0 ≤ (0 : Int) := (by omega)
    have q0_ : 0 < (t210.length : Int) := by omega
    obtain ⟨ad0_, ea_, hx0_⟩ := Kd.at_int (Kd.R_reads' HO212.out).2.2 0 p0_ q0_
    cases ea_
    have qi0_ : (0 < t210.length) = True := eq_true (by omega)
    have qj0_ : decide (0 < (t210.length : Int)) = true := decide_eq_true (by omega)
    have qk0_ : decide (0 < t210.length) = true := decide_eq_true (by omega)
    (try rw [show ((0 : Int)).toNat = 0 from rfl] at hx0_)
    (try rw [Addr.add_zero'] at hx0_)
    replace p0_ := eq_true p0_
    replace q0_ := eq_true q0_
    clear hl
    have z0_ : ((rd t210 0) == 0) = true := beq_iff_eq.mpr cz
    have z1_ : ((rd t210 0) != 0) = false := bne_eq_false_iff_eq.mpr cz
    clear cz
    go_wp2
    go_meet
    case rel => exact ⟨.slice Ao326 t207.length co326, ⟨by rw [e2]; exact yrM (Kd.R_set HO209.out BK201.out (by decide) 0 (.int .i64 ji)) (fun _ hk => ⟨trivial, hk.2⟩)⟩, ⟨yrM (Kd.R_set HO200.out BK201.out (by decide) 0 (.int .i64 ji)) (fun _ hk => ⟨trivial, hk.2⟩)⟩, ⟨blk_far BK188.out NB188_201.out _⟩, ⟨blk_far BK189.out NB189_201.out _⟩, ⟨blk_far BK190.out NB190_201.out _⟩, ⟨blk_far BK191.out NB191_201.out _⟩, ⟨blk_far BK192.out NB192_201.out _⟩, ⟨blk_far BK193.out NB193_201.out _⟩, ⟨blk_far BK202.out NB202_201.out _⟩, ⟨blk_far BK205.out NB205_201.out _⟩, ⟨blk_far BK213.out NB213_201.out _⟩, ⟨by rw [e1]; exact blk_put (cs := #[.int .i64 (wrap64 (t194 + 1)), .slice Ao326 t207.length co326]) BK201.out 0 _ rfl⟩, ⟨ybS HB.out GE201.out⟩⟩
   ·have q1_ : (((rd_T64 l1 a0_0).f0) == 1) = false := by rw [c]; rfl
    have q2_ : (((rd_T64 l1 a0_0).f0) == 2) = false := by rw [c]; rfl
    have q3_ : (((rd_T64 l1 a0_0).f0) == 3) = false := by rw [c]; rfl
    have q4_ : (((rd_T64 l1 a0_0).f0) == 4) = false := by rw [c]; rfl
    have q5_ : (((rd_T64 l1 a0_0).f0) == 5) = false := by rw [c]; rfl
    have q6_ : (((rd_T64 l1 a0_0).f0) == 6) = false := by rw [c]; rfl
    have q7_ : (((rd_T64 l1 a0_0).f0) == 7) = false := by rw [c]; rfl
    have q8_ : (((rd_T64 l1 a0_0).f0) == 8) = false := by rw [c]; rfl
    have q9_ : (((rd_T64 l1 a0_0).f0) == 9) = false := by rw [c]; rfl
    have q10_ : (((rd_T64 l1 a0_0).f0) == 10) = true := by rw [c]; rfl
    obtain ⟨AL_, cL_, eL_⟩ := Kd.R_slice HO212.out
    subst eL_
    have p0_ : 0 ≤ (0 : Int) := (by omega)
    have q0_ : 0 < (t210.length : Int) := by omega
    obtain ⟨ad0_, ea_, hx0_⟩ := Kd.at_int (Kd.R_reads' HO212.out).2.2 0 p0_ q0_
    cases ea_
    have qi0_ : (0 < t210.length) = True := eq_true (by omega)
    have qj0_ : decide (0 < (t210.length : Int)) = true := decide_eq_true (by omega)
    have qk0_ : decide (0 < t210.length) = true := decide_eq_true (by omega)
    (try rw [show ((0 : Int)).toNat = 0 from rfl] at hx0_)
    (try rw [Addr.add_zero'] at hx0_)
    replace p0_ := eq_true p0_
    replace q0_ := eq_true q0_
    clear hl
    have z0_ : ((rd t210 0) == 0) = false := beq_eq_false_iff_ne.mpr cz
    have z1_ : ((rd t210 0) != 0) = true := bne_iff_ne.mpr cz
    clear cz
    go_wp2
    go_meet
    case rel => exact ⟨.slice Ao326 t207.length co326, ⟨by rw [e2]; exact yrM (HO209.out) (fun _ hk => ⟨trivial, hk.2⟩)⟩, ⟨yrM (HO200.out) (fun _ hk => ⟨trivial, hk.2⟩)⟩, ⟨BK188.out⟩, ⟨BK189.out⟩, ⟨BK190.out⟩, ⟨BK191.out⟩, ⟨BK192.out⟩, ⟨BK193.out⟩, ⟨BK202.out⟩, ⟨BK205.out⟩, ⟨BK213.out⟩, ⟨by rw [e1]; exact BK201.out⟩, ⟨HB.out⟩⟩
   ·have q1_ : (((rd_T64 l1 a0_0).f0) == 1) = false := by rw [c]; rfl
    have q2_ : (((rd_T64 l1 a0_0).f0) == 2) = false := by rw [c]; rfl
    have q3_ : (((rd_T64 l1 a0_0).f0) == 3) = false := by rw [c]; rfl
    have q4_ : (((rd_T64 l1 a0_0).f0) == 4) = false := by rw [c]; rfl
    have q5_ : (((rd_T64 l1 a0_0).f0) == 5) = false := by rw [c]; rfl
    have q6_ : (((rd_T64 l1 a0_0).f0) == 6) = false := by rw [c]; rfl
    have q7_ : (((rd_T64 l1 a0_0).f0) == 7) = false := by rw [c]; rfl
    have q8_ : (((rd_T64 l1 a0_0).f0) == 8) = false := by rw [c]; rfl
    have q9_ : (((rd_T64 l1 a0_0).f0) == 9) = false := by rw [c]; rfl
    have q10_ : (((rd_T64 l1 a0_0).f0) == 10) = false := by rw [c]; rfl
    have q11_ : (((rd_T64 l1 a0_0).f0) == 11) = false := by rw [c]; rfl
    have q13_ : (((rd_T64 l1 a0_0).f0) == 13) = false := by rw [c]; rfl
    have q16_ : (((rd_T64 l1 a0_0).f0) == 16) = false := by rw [c]; rfl
    have q14_ : (((rd_T64 l1 a0_0).f0) == 14) = false := by rw [c]; rfl
    have q15_ : (((rd_T64 l1 a0_0).f0) == 15) = false := by rw [c]; rfl
    have q17_ : (((rd_T64 l1 a0_0).f0) == 17) = true := by rw [c]; rfl
    have HL := yaM hL
    have HT := yaM ht
    clear hL ht
    go_wp2_with (first | ((with_reducible refine gate_callee (f := 57) rfl ?_); refine goesL_ (some 153) rfl rfl Try.func57 (by kernel_rfl) rfl #[.int .i64 a4, .int .i64 65536] rfl (by (try simp only [List.map_toArray, List.map_cons, List.map_nil]); first | done | rfl) ?_; (with_reducible refine (impl_modulo.calls a4 65536 tt _ HT.out).mono ?_); rintro e w' ⟨rfl, ⟨nd, rfl⟩⟩; refine ⟨_, rfl, ?_⟩) | ((with_reducible refine gate_callee (f := 71) rfl ?_); refine goesL_ (some 154) rfl rfl Try.func71 (by kernel_rfl) rfl #[.pointer (some ⟨gb201, 0, none⟩), .int .i64 tt] rfl (by (try simp only [List.map_toArray, List.map_cons, List.map_nil]); first | done | rfl) ?_; (with_reducible refine (impl_put.calls w gb201 (wrap64 (t194 + 1)) tt (.slice Ao326 t207.length co326) t207 (fun k_ => some k_ ≠ (v211 : Value).ownBlock ∧ some k_ ≠ (.slice Ao525 t198.length co525 : Value).ownBlock) _ ?s1 ?s2 ?s3 ?s4 ?s5).mono ?_); (case s1 => (with_reducible repeat (first | refine ykN ?_ _ | refine ykD ?_)); exact BK201.out); (case s2 => (with_reducible repeat (first | apply yrN | apply yrD)); exact HO209.out); (case s3 => exact (by repeat (first | (with_reducible first | exact HB.out | apply ybN | apply ybD) | exact HB.out))); (case s4 => exact fun k_ hk_ => ⟨fun e_ => Nat.lt_irrefl _ (Nat.lt_of_lt_of_le (yrL HO212.out k_ e_.symm) (Nat.le_trans (by simp) hk_)), fun e_ => Nat.lt_irrefl _ (Nat.lt_of_lt_of_le (yrL HO200.out k_ e_.symm) (Nat.le_trans (by simp) hk_))⟩); (case s5 => exact HL.out); rintro e wp_ ⟨rfl, v1_, w2_, rfl, ho_, hb_, hg_⟩; refine ⟨_, rfl, ?_⟩; have HP1 := yaM ho_; have HP2 := yaM hb_; have HP3 : Aside0 (∀ (h : Nat) (o : Obj), wb.heap[h]? = some o → some h ≠ (.slice Ao326 t207.length co326 : Value).ownBlock → w2_.heap[h]? = some o) := ⟨fun h o x1 x2 => hg_ h o (by (with_reducible repeat (first | refine ykN ?_ _ | refine ykD ?_)); exact x1) x2⟩; clear ho_ hb_ hg_))
    go_meet
    case rel => exact ⟨v1_, ⟨by rw [e2]; exact yrM (Kd.R_set HP1.out (HP3.out _ _ BK201.out (yrE HO209.out BK201.out (by decide))) (by decide) 1 v1_) (fun _ hk => ⟨trivial, hk.2⟩)⟩, ⟨Kd.R_set (Kd.R_reok (ok := fun k_ => True ∧ some k_ ≠ (v1_ : Value).ownBlock) rfl (Kd.R_step (w1 := w2_) HO200.out (fun k_ hk_ hl_ => (HP3.out k_ _ (Array.getElem?_eq_getElem hl_) hk_.2).trans (Array.getElem?_eq_getElem hl_).symm)) (fun k_ e_ => ⟨trivial, fun e2_ => (HP1.out.1 k_ e2_.symm).2 e_.symm⟩)) (HP3.out _ _ BK201.out (yrE HO209.out BK201.out (by decide))) (by decide) 1 v1_⟩, ⟨blk_far (HP3.out _ _ BK188.out (yrE HO209.out BK188.out (by decide))) NB188_201.out _⟩, ⟨blk_far (HP3.out _ _ BK189.out (yrE HO209.out BK189.out (by decide))) NB189_201.out _⟩, ⟨blk_far (HP3.out _ _ BK190.out (yrE HO209.out BK190.out (by decide))) NB190_201.out _⟩, ⟨blk_far (HP3.out _ _ BK191.out (yrE HO209.out BK191.out (by decide))) NB191_201.out _⟩, ⟨blk_far (HP3.out _ _ BK192.out (yrE HO209.out BK192.out (by decide))) NB192_201.out _⟩, ⟨blk_far (HP3.out _ _ BK193.out (yrE HO209.out BK193.out (by decide))) NB193_201.out _⟩, ⟨blk_far (HP3.out _ _ BK202.out (yrE HO209.out BK202.out (by decide))) NB202_201.out _⟩, ⟨blk_far (HP3.out _ _ BK205.out (yrE HO209.out BK205.out (by decide))) NB205_201.out _⟩, ⟨blk_far (HP3.out _ _ BK213.out (yrE HO209.out BK213.out (by decide))) NB213_201.out _⟩, ⟨by rw [e1]; exact blk_put (cs := #[.int .i64 (wrap64 (t194 + 1)), .slice Ao326 t207.length co326]) (HP3.out _ _ BK201.out (yrE HO209.out BK201.out (by decide))) 1 _ rfl⟩, ⟨ybS HP2.out GE201.out⟩⟩
  case rest =>
   obtain ⟨st_, HO_202001, HO_203000, BK188, BK189, BK190, BK191, BK192, BK193, BK202, BK205, BK213, BK201, HB⟩ := hcut
   obtain ⟨Ao326, co326, es_⟩ := Kd.R_slice HO_202001.out
   subst es_
   try go_wp2
   have n1_ := yaM (yrD HO_202001.out)
   have n2_ := yaM (yrD HO_203000.out)
   have n3_ := yaM (ykD BK188.out)
   have n4_ := yaM (ykD BK189.out)
   have n5_ := yaM (ykD BK190.out)
   have n6_ := yaM (ykD BK191.out)
   have n7_ := yaM (ykD BK192.out)
   have n8_ := yaM (ykD BK193.out)
   have n9_ := yaM (ykD BK201.out)
   have n10_ := yaM (ykD BK202.out)
   have n11_ := yaM (ykD BK205.out)
   have n12_ := yaM (ykD BK213.out)
   have n13_ := yaM (ybD HB.out)
   clear HO_202001
   clear HO_203000
   clear BK188
   clear BK189
   clear BK190
   clear BK191
   clear BK192
   clear BK193
   clear BK201
   clear BK202
   clear BK205
   clear BK213
   clear HB
   have HO_202001 := n1_
   have HO_203000 := n2_
   have BK188 := n3_
   have BK189 := n4_
   have BK190 := n5_
   have BK191 := n6_
   have BK192 := n7_
   have BK193 := n8_
   have BK201 := n9_
   have BK202 := n10_
   have BK205 := n11_
   have BK213 := n12_
   have HB := n13_
   clear n1_ n2_ n3_ n4_ n5_ n6_ n7_ n8_ n9_ n10_ n11_ n12_ n13_
   refine start_ (n := 6) (S := fun w' => w'.cell? ⟨gb201, 0, none⟩ = some (.int .i64 r1) ∧ w'.cell? ⟨gb201, 1, none⟩ = some (.slice Ao326 r2.length co326) ∧ w'.cell? ⟨gb202, 0, none⟩ = some (.slice Ao525 t198.length co525) ∧ w'.cell? ⟨gb213, 0, none⟩ = some (.int .i64 0) ∧ w'.cell? ⟨gb213, 1, none⟩ = some (.int .i64 0) ∧ w'.cell? ⟨gb213, 2, none⟩ = some (.int .i64 0) ∧ w'.cell? ⟨gb213, 3, none⟩ = some (.int .i64 0)) (ds := []) #[false, false, false, false, false, false] (by kernel_rfl) rfl rfl ⟨(ykC BK201.out 0).trans rfl, (ykC BK201.out 1).trans rfl, (ykC BK202.out 0).trans rfl, (ykC BK213.out 0).trans rfl, (ykC BK213.out 1).trans rfl, (ykC BK213.out 2).trans rfl, (ykC BK213.out 3).trans rfl⟩ (fun hHeld => ?_)
   generalize wc.drew = w392 at HO_202001 HO_203000 BK188 BK189 BK190 BK191 BK192 BK193 BK201 BK202 BK205 BK213 HB hHeld ⊢
   refine take_ (i := 0) (N := some 155) (v := ?_) (a' := ?_) #[true, false, false, false, false, false] rfl rfl (by kernel_rfl) (fun _ _ _ h => h) (Or.inl ⟨by rfl, ?_⟩) hHeld ?_ ?_
   rotate_left
   ·rintro w' ⟨s0, s1, s2, s3, s4, s5, s6⟩
    go_simp
    with_reducible rfl
   rotate_left
   ·simp only [Act.put, ylA, ylZ, ylS, i64_w, i32_w]
    rfl
   refine take_ (i := 1) (N := some 156) (v := ?_) (a' := ?_) #[true, true, false, false, false, false] rfl rfl (by kernel_rfl) (fun _ _ _ h => h) (Or.inl ⟨by rfl, ?_⟩) hHeld ?_ ?_
   rotate_left
   ·rintro w' ⟨s0, s1, s2, s3, s4, s5, s6⟩
    go_simp
    with_reducible rfl
   rotate_left
   ·simp only [Act.put, ylA, ylZ, ylS, i64_w, i32_w]
    rfl
   refine take_ (i := 2) (N := some 157) (v := ?_) (a' := ?_) #[true, true, true, false, false, false] rfl rfl (by kernel_rfl) (fun _ _ _ h => h) (Or.inl ⟨by rfl, ?_⟩) hHeld ?_ ?_
   rotate_left
   ·rintro w' ⟨s0, s1, s2, s3, s4, s5, s6⟩
    go_simp
    with_reducible rfl
   rotate_left
   ·simp only [Act.put, ylA, ylZ, ylS, i64_w, i32_w]
    rfl
   refine one_ (i := 3) (N := none) #[true, true, true, true, false, false] rfl rfl (by kernel_rfl) (by decide) (fun K hK => ?_)
   have hs393 : w392.cell? ⟨gb191, 0, none⟩ = some (.int .i64 0) := (ykC BK191.out 0).trans rfl
   have hfs393 := blk_frozen BK191.out 0
   have hns393_0 := NB188_191.out
   have hns393_1 := NB189_191.out
   have hns393_2 := NB190_191.out
   have hns393_4 := NB192_191.out
   have hns393_5 := NB193_191.out
   have hns393_6 := NB201_191.out
   have hns393_7 := NB202_191.out
   have hns393_8 := NB205_191.out
   have hns393_9 := NB213_191.out
   have hms393_0 := NB191_188.out
   have hms393_1 := NB191_189.out
   have hms393_2 := NB191_190.out
   have hms393_4 := NB191_192.out
   have hms393_5 := NB191_193.out
   have hms393_6 := NB191_201.out
   have hms393_7 := NB191_202.out
   have hms393_8 := NB191_205.out
   have hms393_9 := NB191_213.out
   have hs394 : w392.cell? ⟨gb191, 1, none⟩ = some (.slice none 0 0) := (ykC BK191.out 1).trans rfl
   have hfs394 := blk_frozen BK191.out 1
   have hns394_0 := NB188_191.out
   have hns394_1 := NB189_191.out
   have hns394_2 := NB190_191.out
   have hns394_4 := NB192_191.out
   have hns394_5 := NB193_191.out
   have hns394_6 := NB201_191.out
   have hns394_7 := NB202_191.out
   have hns394_8 := NB205_191.out
   have hns394_9 := NB213_191.out
   have hms394_0 := NB191_188.out
   have hms394_1 := NB191_189.out
   have hms394_2 := NB191_190.out
   have hms394_4 := NB191_192.out
   have hms394_5 := NB191_193.out
   have hms394_6 := NB191_201.out
   have hms394_7 := NB191_202.out
   have hms394_8 := NB191_205.out
   have hms394_9 := NB191_213.out
   refine skip_ (w1 := ?_) (by rfl) rfl ?_ ?_
   rotate_left
   ·go_simp
    rfl
   refine hK.out _ _ ⟨((cell_far (p := ⟨gb191, _, none⟩) NB201_191.out _).trans (((cell_far (p := ⟨gb191, _, none⟩) NB201_191.out _).trans (hHeld.1)))), ((cell_far (p := ⟨gb191, _, none⟩) NB201_191.out _).trans (((cell_far (p := ⟨gb191, _, none⟩) NB201_191.out _).trans (hHeld.2.1)))), ((cell_far (p := ⟨gb191, _, none⟩) NB202_191.out _).trans (((cell_far (p := ⟨gb191, _, none⟩) NB202_191.out _).trans (hHeld.2.2.1)))), ((cell_far (p := ⟨gb191, _, none⟩) NB213_191.out _).trans (((cell_far (p := ⟨gb191, _, none⟩) NB213_191.out _).trans (hHeld.2.2.2.1)))), ((cell_far (p := ⟨gb191, _, none⟩) NB213_191.out _).trans (((cell_far (p := ⟨gb191, _, none⟩) NB213_191.out _).trans (hHeld.2.2.2.2.1)))), ((cell_far (p := ⟨gb191, _, none⟩) NB213_191.out _).trans (((cell_far (p := ⟨gb191, _, none⟩) NB213_191.out _).trans (hHeld.2.2.2.2.2.1)))), ((cell_far (p := ⟨gb191, _, none⟩) NB213_191.out _).trans (((cell_far (p := ⟨gb191, _, none⟩) NB213_191.out _).trans (hHeld.2.2.2.2.2.2))))⟩ (fun hHeld => ?_)
   clear hK K
   refine one_ (i := 4) (N := none) #[true, true, true, true, true, false] rfl rfl (by kernel_rfl) (by decide) (fun K hK => ?_)
   have hs395 : w392.cell? ⟨gb192, 0, none⟩ = some (.slice none 0 0) := (ykC BK192.out 0).trans rfl
   have hfs395 := blk_frozen BK192.out 0
   have hns395_0 := NB188_192.out
   have hns395_1 := NB189_192.out
   have hns395_2 := NB190_192.out
   have hns395_3 := NB191_192.out
   have hns395_5 := NB193_192.out
   have hns395_6 := NB201_192.out
   have hns395_7 := NB202_192.out
   have hns395_8 := NB205_192.out
   have hns395_9 := NB213_192.out
   have hms395_0 := NB192_188.out
   have hms395_1 := NB192_189.out
   have hms395_2 := NB192_190.out
   have hms395_3 := NB192_191.out
   have hms395_5 := NB192_193.out
   have hms395_6 := NB192_201.out
   have hms395_7 := NB192_202.out
   have hms395_8 := NB192_205.out
   have hms395_9 := NB192_213.out
   refine skip_ (w1 := ?_) (by rfl) rfl ?_ ?_
   rotate_left
   ·go_simp
    rfl
   refine hK.out _ _ ⟨((cell_far (p := ⟨gb192, _, none⟩) NB201_192.out _).trans (hHeld.1)), ((cell_far (p := ⟨gb192, _, none⟩) NB201_192.out _).trans (hHeld.2.1)), ((cell_far (p := ⟨gb192, _, none⟩) NB202_192.out _).trans (hHeld.2.2.1)), ((cell_far (p := ⟨gb192, _, none⟩) NB213_192.out _).trans (hHeld.2.2.2.1)), ((cell_far (p := ⟨gb192, _, none⟩) NB213_192.out _).trans (hHeld.2.2.2.2.1)), ((cell_far (p := ⟨gb192, _, none⟩) NB213_192.out _).trans (hHeld.2.2.2.2.2.1)), ((cell_far (p := ⟨gb192, _, none⟩) NB213_192.out _).trans (hHeld.2.2.2.2.2.2))⟩ (fun hHeld => ?_)
   clear hK K
   refine one_ (i := 5) (N := none) #[true, true, true, true, true, true] rfl rfl (by kernel_rfl) (by decide) (fun K hK => ?_)
   have hs396 : w392.cell? ⟨gb193, 0, none⟩ = some (.int .i64 0) := (ykC BK193.out 0).trans rfl
   have hfs396 := blk_frozen BK193.out 0
   have hns396_0 := NB188_193.out
   have hns396_1 := NB189_193.out
   have hns396_2 := NB190_193.out
   have hns396_3 := NB191_193.out
   have hns396_4 := NB192_193.out
   have hns396_6 := NB201_193.out
   have hns396_7 := NB202_193.out
   have hns396_8 := NB205_193.out
   have hns396_9 := NB213_193.out
   have hms396_0 := NB193_188.out
   have hms396_1 := NB193_189.out
   have hms396_2 := NB193_190.out
   have hms396_3 := NB193_191.out
   have hms396_4 := NB193_192.out
   have hms396_6 := NB193_201.out
   have hms396_7 := NB193_202.out
   have hms396_8 := NB193_205.out
   have hms396_9 := NB193_213.out
   have hs397 : w392.cell? ⟨gb193, 1, none⟩ = some (.int .i64 0) := (ykC BK193.out 1).trans rfl
   have hfs397 := blk_frozen BK193.out 1
   have hns397_0 := NB188_193.out
   have hns397_1 := NB189_193.out
   have hns397_2 := NB190_193.out
   have hns397_3 := NB191_193.out
   have hns397_4 := NB192_193.out
   have hns397_6 := NB201_193.out
   have hns397_7 := NB202_193.out
   have hns397_8 := NB205_193.out
   have hns397_9 := NB213_193.out
   have hms397_0 := NB193_188.out
   have hms397_1 := NB193_189.out
   have hms397_2 := NB193_190.out
   have hms397_3 := NB193_191.out
   have hms397_4 := NB193_192.out
   have hms397_6 := NB193_201.out
   have hms397_7 := NB193_202.out
   have hms397_8 := NB193_205.out
   have hms397_9 := NB193_213.out
   have hs398 : w392.cell? ⟨gb193, 2, none⟩ = some (.int .i64 0) := (ykC BK193.out 2).trans rfl
   have hfs398 := blk_frozen BK193.out 2
   have hns398_0 := NB188_193.out
   have hns398_1 := NB189_193.out
   have hns398_2 := NB190_193.out
   have hns398_3 := NB191_193.out
   have hns398_4 := NB192_193.out
   have hns398_6 := NB201_193.out
   have hns398_7 := NB202_193.out
   have hns398_8 := NB205_193.out
   have hns398_9 := NB213_193.out
   have hms398_0 := NB193_188.out
   have hms398_1 := NB193_189.out
   have hms398_2 := NB193_190.out
   have hms398_3 := NB193_191.out
   have hms398_4 := NB193_192.out
   have hms398_6 := NB193_201.out
   have hms398_7 := NB193_202.out
   have hms398_8 := NB193_205.out
   have hms398_9 := NB193_213.out
   have hs399 : w392.cell? ⟨gb193, 3, none⟩ = some (.int .i64 0) := (ykC BK193.out 3).trans rfl
   have hfs399 := blk_frozen BK193.out 3
   have hns399_0 := NB188_193.out
   have hns399_1 := NB189_193.out
   have hns399_2 := NB190_193.out
   have hns399_3 := NB191_193.out
   have hns399_4 := NB192_193.out
   have hns399_6 := NB201_193.out
   have hns399_7 := NB202_193.out
   have hns399_8 := NB205_193.out
   have hns399_9 := NB213_193.out
   have hms399_0 := NB193_188.out
   have hms399_1 := NB193_189.out
   have hms399_2 := NB193_190.out
   have hms399_3 := NB193_191.out
   have hms399_4 := NB193_192.out
   have hms399_6 := NB193_201.out
   have hms399_7 := NB193_202.out
   have hms399_8 := NB193_205.out
   have hms399_9 := NB193_213.out
   refine skip_ (w1 := ?_) (by rfl) rfl ?_ ?_
   rotate_left
   ·go_simp
    rfl
   refine hK.out _ _ ⟨((cell_far (p := ⟨gb193, _, none⟩) NB201_193.out _).trans (((cell_far (p := ⟨gb193, _, none⟩) NB201_193.out _).trans (((cell_far (p := ⟨gb193, _, none⟩) NB201_193.out _).trans (((cell_far (p := ⟨gb193, _, none⟩) NB201_193.out _).trans (hHeld.1)))))))), ((cell_far (p := ⟨gb193, _, none⟩) NB201_193.out _).trans (((cell_far (p := ⟨gb193, _, none⟩) NB201_193.out _).trans (((cell_far (p := ⟨gb193, _, none⟩) NB201_193.out _).trans (((cell_far (p := ⟨gb193, _, none⟩) NB201_193.out _).trans (hHeld.2.1)))))))), ((cell_far (p := ⟨gb193, _, none⟩) NB202_193.out _).trans (((cell_far (p := ⟨gb193, _, none⟩) NB202_193.out _).trans (((cell_far (p := ⟨gb193, _, none⟩) NB202_193.out _).trans (((cell_far (p := ⟨gb193, _, none⟩) NB202_193.out _).trans (hHeld.2.2.1)))))))), ((cell_far (p := ⟨gb193, _, none⟩) NB213_193.out _).trans (((cell_far (p := ⟨gb193, _, none⟩) NB213_193.out _).trans (((cell_far (p := ⟨gb193, _, none⟩) NB213_193.out _).trans (((cell_far (p := ⟨gb193, _, none⟩) NB213_193.out _).trans (hHeld.2.2.2.1)))))))), ((cell_far (p := ⟨gb193, _, none⟩) NB213_193.out _).trans (((cell_far (p := ⟨gb193, _, none⟩) NB213_193.out _).trans (((cell_far (p := ⟨gb193, _, none⟩) NB213_193.out _).trans (((cell_far (p := ⟨gb193, _, none⟩) NB213_193.out _).trans (hHeld.2.2.2.2.1)))))))), ((cell_far (p := ⟨gb193, _, none⟩) NB213_193.out _).trans (((cell_far (p := ⟨gb193, _, none⟩) NB213_193.out _).trans (((cell_far (p := ⟨gb193, _, none⟩) NB213_193.out _).trans (((cell_far (p := ⟨gb193, _, none⟩) NB213_193.out _).trans (hHeld.2.2.2.2.2.1)))))))), ((cell_far (p := ⟨gb193, _, none⟩) NB213_193.out _).trans (((cell_far (p := ⟨gb193, _, none⟩) NB213_193.out _).trans (((cell_far (p := ⟨gb193, _, none⟩) NB213_193.out _).trans (((cell_far (p := ⟨gb193, _, none⟩) NB213_193.out _).trans (hHeld.2.2.2.2.2.2))))))))⟩ (fun hHeld => ?_)
   clear hK K
   refine done_ (by kernel_rfl) ?_
   try go_wp2
   refine bodyPost_ret (results_list (rs := [.cell 10 52, .cell 11 29, .cell 12 60]) rfl (by simp) (.cell gb191 52 #[.int .i64 r1, .slice Ao326 r2.length co326] (0, 0) _ rfl (by (with_reducible repeat (first | apply ykN | apply ykD | apply ykA)); refine blk_far ?_ NB191_193.out _; refine blk_far ?_ NB191_193.out _; refine blk_far ?_ NB191_193.out _; refine blk_far ?_ NB191_193.out _; refine blk_far ?_ NB191_192.out _; refine blk_put (cs := #[.int .i64 r1, .slice none 0 0]) ?_ 1 _ rfl; refine blk_put (cs := #[.int .i64 0, .slice none 0 0]) ?_ 0 _ rfl; exact BK191.out) Try.underlying52 rfl (by kernel_rfl) (.cell gb192 29 #[.slice Ao525 t198.length co525] (0, 0) _ rfl (by (with_reducible repeat (first | apply ykN | apply ykD | apply ykA)); refine blk_far ?_ NB192_193.out _; refine blk_far ?_ NB192_193.out _; refine blk_far ?_ NB192_193.out _; refine blk_far ?_ NB192_193.out _; refine blk_put (cs := #[.slice none 0 0]) ?_ 0 _ rfl; refine blk_far ?_ NB192_191.out _; refine blk_far ?_ NB192_191.out _; exact BK192.out) Try.underlying29 rfl (by kernel_rfl) (.cell gb193 60 #[.int .i64 0, .int .i64 0, .int .i64 0, .int .i64 0] (0, 0) _ rfl (by (with_reducible repeat (first | apply ykN | apply ykD | apply ykA)); refine blk_put (cs := #[.int .i64 0, .int .i64 0, .int .i64 0, .int .i64 0]) ?_ 3 _ rfl; refine blk_put (cs := #[.int .i64 0, .int .i64 0, .int .i64 0, .int .i64 0]) ?_ 2 _ rfl; refine blk_put (cs := #[.int .i64 0, .int .i64 0, .int .i64 0, .int .i64 0]) ?_ 1 _ rfl; refine blk_put (cs := #[.int .i64 0, .int .i64 0, .int .i64 0, .int .i64 0]) ?_ 0 _ rfl; refine blk_far ?_ NB193_192.out _; refine blk_far ?_ NB193_191.out _; refine blk_far ?_ NB193_191.out _; exact BK193.out) Try.underlying60 rfl (by kernel_rfl) .nil)))) rfl ?_
   exact ⟨_, _, by first | rfl | (simp [errW_none, errW_some] <;> rfl) | (skip; first | rfl | (simp [errW_none, errW_some] <;> rfl)) | (simp [*, errW_none, errW_some] <;> rfl), by (with_reducible repeat (first | apply yrA | apply yrN | apply yrD)); exact yrM (Kd.R_far (p := ⟨gb193, 3, none⟩) (Kd.R_far (p := ⟨gb193, 2, none⟩) (Kd.R_far (p := ⟨gb193, 1, none⟩) (Kd.R_far (p := ⟨gb193, 0, none⟩) (Kd.R_far (p := ⟨gb192, 0, none⟩) (Kd.R_far (p := ⟨gb191, 1, none⟩) (Kd.R_far (p := ⟨gb191, 0, none⟩) (Kd.R_types (Kd.R_types (Kd.R_types HO_202001.out BK191.out (by decide)) BK192.out (by decide)) BK193.out (by decide)) (fun _ hk => hk.1.1.2) (.int .i64 r1)) (fun _ hk => hk.1.1.2) (.slice Ao326 r2.length co326)) (fun _ hk => hk.1.2) (.slice Ao525 t198.length co525)) (fun _ hk => hk.2) (.int .i64 0)) (fun _ hk => hk.2) (.int .i64 0)) (fun _ hk => hk.2) (.int .i64 0)) (fun _ hk => hk.2) (.int .i64 0)) (fun _ hk => hk.1.1.1.2), by (with_reducible repeat (first | apply yrA | apply yrN | apply yrD)); exact yrM (Kd.R_far (p := ⟨gb193, 3, none⟩) (Kd.R_far (p := ⟨gb193, 2, none⟩) (Kd.R_far (p := ⟨gb193, 1, none⟩) (Kd.R_far (p := ⟨gb193, 0, none⟩) (Kd.R_far (p := ⟨gb192, 0, none⟩) (Kd.R_far (p := ⟨gb191, 1, none⟩) (Kd.R_far (p := ⟨gb191, 0, none⟩) (Kd.R_types (Kd.R_types (Kd.R_types HO_203000.out BK191.out (by decide)) BK192.out (by decide)) BK193.out (by decide)) (fun _ hk => hk.1.1.2) (.int .i64 r1)) (fun _ hk => hk.1.1.2) (.slice Ao326 r2.length co326)) (fun _ hk => hk.1.2) (.slice Ao525 t198.length co525)) (fun _ hk => hk.2) (.int .i64 0)) (fun _ hk => hk.2) (.int .i64 0)) (fun _ hk => hk.2) (.int .i64 0)) (fun _ hk => hk.2) (.int .i64 0)) (fun _ hk => hk.1.1.1.2), by repeat (first | (with_reducible first | exact HB.out | apply ybA | apply ybN | apply ybD | refine ybS ?_ GE191.out | refine ybS ?_ GE192.out | refine ybS ?_ GE193.out | refine ybS ?_ GE201.out | refine ybS ?_ GE202.out | refine ybS ?_ GE205.out | refine ybS ?_ GE213.out) | exact HB.out)⟩
 ·have H := HH.out
  rw [if_neg c9] at H
  clear HH
  have c9b0 : (t203 == 0) = false := beq_eq_false_iff_ne.mpr c9
  have c9b1 : (t203 != 0) = true := bne_iff_ne.mpr c9
  simp only [Option.some.injEq, Prod.mk.injEq] at H
  obtain ⟨rfl, rfl, rfl, rfl, rfl, rfl, rfl⟩ := H
  try go_wp2
  have n0_ := yaM (yrD HO197.out)
  have n1_ := yaM (yrD HO200.out)
  have n2_ := yaM (ykD BK188.out)
  have n3_ := yaM (ykD BK189.out)
  have n4_ := yaM (ykD BK190.out)
  have n5_ := yaM (ykD BK191.out)
  have n6_ := yaM (ykD BK192.out)
  have n7_ := yaM (ykD BK193.out)
  have n8_ := yaM (ykD BK201.out)
  have n9_ := yaM (ykD BK202.out)
  have n10_ := yaM (ybD HB.out)
  clear HO197
  clear HO200
  clear BK188
  clear BK189
  clear BK190
  clear BK191
  clear BK192
  clear BK193
  clear BK201
  clear BK202
  clear HB
  have HO197 := n0_
  have HO200 := n1_
  have BK188 := n2_
  have BK189 := n3_
  have BK190 := n4_
  have BK191 := n5_
  have BK192 := n6_
  have BK193 := n7_
  have BK201 := n8_
  have BK202 := n9_
  have HB := n10_
  clear n0_ n1_ n2_ n3_ n4_ n5_ n6_ n7_ n8_ n9_ n10_
  refine start_ (n := 7) (S := fun w' => w'.cell? ⟨gb201, 0, none⟩ = some (.int .i64 t194) ∧ w'.cell? ⟨gb201, 1, none⟩ = some (.slice Ao523 t195.length co523) ∧ w'.cell? ⟨gb202, 0, none⟩ = some (.slice Ao525 t198.length co525)) (ds := []) #[false, false, false, false, false, false, false] (by kernel_rfl) rfl rfl ⟨(ykC BK201.out 0).trans rfl, (ykC BK201.out 1).trans rfl, (ykC BK202.out 0).trans rfl⟩ (fun hHeld => ?_)
  generalize w548.drew = w549 at HO197 HO200 BK188 BK189 BK190 BK191 BK192 BK193 BK201 BK202 HB hHeld ⊢
  refine pure_ (i := 2) (N := some 32) (v := ?_) (a' := ?_) #[false, false, true, false, false, false, false] rfl rfl (by kernel_rfl) (fun _ _ _ h => h) (Or.inl ⟨by rfl, ?_⟩) ?_ ?_
  rotate_left
  ·intro w'
   go_simp
   with_reducible rfl
  rotate_left
  ·simp only [Act.put, ylA, ylZ, ylS, i64_w, i32_w]
   rfl
  refine pure_ (i := 3) (N := some 33) (v := ?_) (a' := ?_) #[false, false, true, true, false, false, false] rfl rfl (by kernel_rfl) (fun _ _ _ h => h) (Or.inl ⟨by rfl, ?_⟩) ?_ ?_
  rotate_left
  ·intro w'
   go_simp
   with_reducible rfl
  rotate_left
  ·simp only [Act.put, ylA, ylZ, ylS, i64_w, i32_w]
   rfl
  refine take_ (i := 0) (N := some 30) (v := ?_) (a' := ?_) #[true, false, true, true, false, false, false] rfl rfl (by kernel_rfl) (fun _ _ _ h => h) (Or.inl ⟨by rfl, ?_⟩) hHeld ?_ ?_
  rotate_left
  ·rintro w' ⟨s0, s1, s2⟩
   go_simp
   with_reducible rfl
  rotate_left
  ·simp only [Act.put, ylA, ylZ, ylS, i64_w, i32_w]
   rfl
  refine take_ (i := 1) (N := some 31) (v := ?_) (a' := ?_) #[true, true, true, true, false, false, false] rfl rfl (by kernel_rfl) (fun _ _ _ h => h) (Or.inl ⟨by rfl, ?_⟩) hHeld ?_ ?_
  rotate_left
  ·rintro w' ⟨s0, s1, s2⟩
   go_simp
   with_reducible rfl
  rotate_left
  ·simp only [Act.put, ylA, ylZ, ylS, i64_w, i32_w]
   rfl
  refine one_ (i := 4) (N := none) #[true, true, true, true, true, false, false] rfl rfl (by kernel_rfl) (by decide) (fun K hK => ?_)
  have hs550 : w549.cell? ⟨gb191, 0, none⟩ = some (.int .i64 0) := (ykC BK191.out 0).trans rfl
  have hfs550 := blk_frozen BK191.out 0
  have hns550_0 := NB188_191.out
  have hns550_1 := NB189_191.out
  have hns550_2 := NB190_191.out
  have hns550_4 := NB192_191.out
  have hns550_5 := NB193_191.out
  have hns550_6 := NB201_191.out
  have hns550_7 := NB202_191.out
  have hms550_0 := NB191_188.out
  have hms550_1 := NB191_189.out
  have hms550_2 := NB191_190.out
  have hms550_4 := NB191_192.out
  have hms550_5 := NB191_193.out
  have hms550_6 := NB191_201.out
  have hms550_7 := NB191_202.out
  have hs551 : w549.cell? ⟨gb191, 1, none⟩ = some (.slice none 0 0) := (ykC BK191.out 1).trans rfl
  have hfs551 := blk_frozen BK191.out 1
  have hns551_0 := NB188_191.out
  have hns551_1 := NB189_191.out
  have hns551_2 := NB190_191.out
  have hns551_4 := NB192_191.out
  have hns551_5 := NB193_191.out
  have hns551_6 := NB201_191.out
  have hns551_7 := NB202_191.out
  have hms551_0 := NB191_188.out
  have hms551_1 := NB191_189.out
  have hms551_2 := NB191_190.out
  have hms551_4 := NB191_192.out
  have hms551_5 := NB191_193.out
  have hms551_6 := NB191_201.out
  have hms551_7 := NB191_202.out
  refine skip_ (w1 := ?_) (by rfl) rfl ?_ ?_
  rotate_left
  ·go_simp
   rfl
  refine hK.out _ _ ⟨((cell_far (p := ⟨gb191, _, none⟩) NB201_191.out _).trans (((cell_far (p := ⟨gb191, _, none⟩) NB201_191.out _).trans (hHeld.1)))), ((cell_far (p := ⟨gb191, _, none⟩) NB201_191.out _).trans (((cell_far (p := ⟨gb191, _, none⟩) NB201_191.out _).trans (hHeld.2.1)))), ((cell_far (p := ⟨gb191, _, none⟩) NB202_191.out _).trans (((cell_far (p := ⟨gb191, _, none⟩) NB202_191.out _).trans (hHeld.2.2))))⟩ (fun hHeld => ?_)
  clear hK K
  refine one_ (i := 5) (N := none) #[true, true, true, true, true, true, false] rfl rfl (by kernel_rfl) (by decide) (fun K hK => ?_)
  have hs552 : w549.cell? ⟨gb192, 0, none⟩ = some (.slice none 0 0) := (ykC BK192.out 0).trans rfl
  have hfs552 := blk_frozen BK192.out 0
  have hns552_0 := NB188_192.out
  have hns552_1 := NB189_192.out
  have hns552_2 := NB190_192.out
  have hns552_3 := NB191_192.out
  have hns552_5 := NB193_192.out
  have hns552_6 := NB201_192.out
  have hns552_7 := NB202_192.out
  have hms552_0 := NB192_188.out
  have hms552_1 := NB192_189.out
  have hms552_2 := NB192_190.out
  have hms552_3 := NB192_191.out
  have hms552_5 := NB192_193.out
  have hms552_6 := NB192_201.out
  have hms552_7 := NB192_202.out
  refine skip_ (w1 := ?_) (by rfl) rfl ?_ ?_
  rotate_left
  ·go_simp
   rfl
  refine hK.out _ _ ⟨((cell_far (p := ⟨gb192, _, none⟩) NB201_192.out _).trans (hHeld.1)), ((cell_far (p := ⟨gb192, _, none⟩) NB201_192.out _).trans (hHeld.2.1)), ((cell_far (p := ⟨gb192, _, none⟩) NB202_192.out _).trans (hHeld.2.2))⟩ (fun hHeld => ?_)
  clear hK K
  refine one_ (i := 6) (N := none) #[true, true, true, true, true, true, true] rfl rfl (by kernel_rfl) (by decide) (fun K hK => ?_)
  have hs553 : w549.cell? ⟨gb193, 0, none⟩ = some (.int .i64 0) := (ykC BK193.out 0).trans rfl
  have hfs553 := blk_frozen BK193.out 0
  have hns553_0 := NB188_193.out
  have hns553_1 := NB189_193.out
  have hns553_2 := NB190_193.out
  have hns553_3 := NB191_193.out
  have hns553_4 := NB192_193.out
  have hns553_6 := NB201_193.out
  have hns553_7 := NB202_193.out
  have hms553_0 := NB193_188.out
  have hms553_1 := NB193_189.out
  have hms553_2 := NB193_190.out
  have hms553_3 := NB193_191.out
  have hms553_4 := NB193_192.out
  have hms553_6 := NB193_201.out
  have hms553_7 := NB193_202.out
  have hs554 : w549.cell? ⟨gb193, 1, none⟩ = some (.int .i64 0) := (ykC BK193.out 1).trans rfl
  have hfs554 := blk_frozen BK193.out 1
  have hns554_0 := NB188_193.out
  have hns554_1 := NB189_193.out
  have hns554_2 := NB190_193.out
  have hns554_3 := NB191_193.out
  have hns554_4 := NB192_193.out
  have hns554_6 := NB201_193.out
  have hns554_7 := NB202_193.out
  have hms554_0 := NB193_188.out
  have hms554_1 := NB193_189.out
  have hms554_2 := NB193_190.out
  have hms554_3 := NB193_191.out
  have hms554_4 := NB193_192.out
  have hms554_6 := NB193_201.out
  have hms554_7 := NB193_202.out
  have hs555 : w549.cell? ⟨gb193, 2, none⟩ = some (.int .i64 0) := (ykC BK193.out 2).trans rfl
  have hfs555 := blk_frozen BK193.out 2
  have hns555_0 := NB188_193.out
  have hns555_1 := NB189_193.out
  have hns555_2 := NB190_193.out
  have hns555_3 := NB191_193.out
  have hns555_4 := NB192_193.out
  have hns555_6 := NB201_193.out
  have hns555_7 := NB202_193.out
  have hms555_0 := NB193_188.out
  have hms555_1 := NB193_189.out
  have hms555_2 := NB193_190.out
  have hms555_3 := NB193_191.out
  have hms555_4 := NB193_192.out
  have hms555_6 := NB193_201.out
  have hms555_7 := NB193_202.out
  have hs556 : w549.cell? ⟨gb193, 3, none⟩ = some (.int .i64 0) := (ykC BK193.out 3).trans rfl
  have hfs556 := blk_frozen BK193.out 3
  have hns556_0 := NB188_193.out
  have hns556_1 := NB189_193.out
  have hns556_2 := NB190_193.out
  have hns556_3 := NB191_193.out
  have hns556_4 := NB192_193.out
  have hns556_6 := NB201_193.out
  have hns556_7 := NB202_193.out
  have hms556_0 := NB193_188.out
  have hms556_1 := NB193_189.out
  have hms556_2 := NB193_190.out
  have hms556_3 := NB193_191.out
  have hms556_4 := NB193_192.out
  have hms556_6 := NB193_201.out
  have hms556_7 := NB193_202.out
  refine skip_ (w1 := ?_) (by rfl) rfl ?_ ?_
  rotate_left
  ·go_simp
   rfl
  refine hK.out _ _ ⟨((cell_far (p := ⟨gb193, _, none⟩) NB201_193.out _).trans (((cell_far (p := ⟨gb193, _, none⟩) NB201_193.out _).trans (((cell_far (p := ⟨gb193, _, none⟩) NB201_193.out _).trans (((cell_far (p := ⟨gb193, _, none⟩) NB201_193.out _).trans (hHeld.1)))))))), ((cell_far (p := ⟨gb193, _, none⟩) NB201_193.out _).trans (((cell_far (p := ⟨gb193, _, none⟩) NB201_193.out _).trans (((cell_far (p := ⟨gb193, _, none⟩) NB201_193.out _).trans (((cell_far (p := ⟨gb193, _, none⟩) NB201_193.out _).trans (hHeld.2.1)))))))), ((cell_far (p := ⟨gb193, _, none⟩) NB202_193.out _).trans (((cell_far (p := ⟨gb193, _, none⟩) NB202_193.out _).trans (((cell_far (p := ⟨gb193, _, none⟩) NB202_193.out _).trans (((cell_far (p := ⟨gb193, _, none⟩) NB202_193.out _).trans (hHeld.2.2))))))))⟩ (fun hHeld => ?_)
  clear hK K
  refine done_ (by kernel_rfl) ?_
  try go_wp2
  refine bodyPost_ret (results_list (rs := [.cell 10 52, .cell 11 29, .cell 12 60]) rfl (by simp) (.cell gb191 52 #[.int .i64 t194, .slice Ao523 t195.length co523] (0, 0) _ rfl (by (with_reducible repeat (first | apply ykN | apply ykD | apply ykA)); refine blk_far ?_ NB191_193.out _; refine blk_far ?_ NB191_193.out _; refine blk_far ?_ NB191_193.out _; refine blk_far ?_ NB191_193.out _; refine blk_far ?_ NB191_192.out _; refine blk_put (cs := #[.int .i64 t194, .slice none 0 0]) ?_ 1 _ rfl; refine blk_put (cs := #[.int .i64 0, .slice none 0 0]) ?_ 0 _ rfl; exact BK191.out) Try.underlying52 rfl (by kernel_rfl) (.cell gb192 29 #[.slice Ao525 t198.length co525] (0, 0) _ rfl (by (with_reducible repeat (first | apply ykN | apply ykD | apply ykA)); refine blk_far ?_ NB192_193.out _; refine blk_far ?_ NB192_193.out _; refine blk_far ?_ NB192_193.out _; refine blk_far ?_ NB192_193.out _; refine blk_put (cs := #[.slice none 0 0]) ?_ 0 _ rfl; refine blk_far ?_ NB192_191.out _; refine blk_far ?_ NB192_191.out _; exact BK192.out) Try.underlying29 rfl (by kernel_rfl) (.cell gb193 60 #[.int .i64 0, .int .i64 0, .int .i64 0, .int .i64 t203] (0, 0) _ rfl (by (with_reducible repeat (first | apply ykN | apply ykD | apply ykA)); refine blk_put (cs := #[.int .i64 0, .int .i64 0, .int .i64 0, .int .i64 0]) ?_ 3 _ rfl; refine blk_put (cs := #[.int .i64 0, .int .i64 0, .int .i64 0, .int .i64 0]) ?_ 2 _ rfl; refine blk_put (cs := #[.int .i64 0, .int .i64 0, .int .i64 0, .int .i64 0]) ?_ 1 _ rfl; refine blk_put (cs := #[.int .i64 0, .int .i64 0, .int .i64 0, .int .i64 0]) ?_ 0 _ rfl; refine blk_far ?_ NB193_192.out _; refine blk_far ?_ NB193_191.out _; refine blk_far ?_ NB193_191.out _; exact BK193.out) Try.underlying60 rfl (by kernel_rfl) .nil)))) rfl ?_
  exact ⟨_, _, by first | rfl | (simp [errW_none, errW_some] <;> rfl) | (simp [*, errW_none, errW_some] <;> rfl), by (with_reducible repeat (first | apply yrA | apply yrN | apply yrD)); exact yrM (Kd.R_far (p := ⟨gb193, 3, none⟩) (Kd.R_far (p := ⟨gb193, 2, none⟩) (Kd.R_far (p := ⟨gb193, 1, none⟩) (Kd.R_far (p := ⟨gb193, 0, none⟩) (Kd.R_far (p := ⟨gb192, 0, none⟩) (Kd.R_far (p := ⟨gb191, 1, none⟩) (Kd.R_far (p := ⟨gb191, 0, none⟩) (Kd.R_types (Kd.R_types (Kd.R_types HO197.out BK191.out (by decide)) BK192.out (by decide)) BK193.out (by decide)) (fun _ hk => hk.1.1.2) (.int .i64 t194)) (fun _ hk => hk.1.1.2) (.slice Ao523 t195.length co523)) (fun _ hk => hk.1.2) (.slice Ao525 t198.length co525)) (fun _ hk => hk.2) (.int .i64 0)) (fun _ hk => hk.2) (.int .i64 0)) (fun _ hk => hk.2) (.int .i64 0)) (fun _ hk => hk.2) (.int .i64 t203)) (fun _ hk => hk.1.1.1), by (with_reducible repeat (first | apply yrA | apply yrN | apply yrD)); exact yrM (Kd.R_far (p := ⟨gb193, 3, none⟩) (Kd.R_far (p := ⟨gb193, 2, none⟩) (Kd.R_far (p := ⟨gb193, 1, none⟩) (Kd.R_far (p := ⟨gb193, 0, none⟩) (Kd.R_far (p := ⟨gb192, 0, none⟩) (Kd.R_far (p := ⟨gb191, 1, none⟩) (Kd.R_far (p := ⟨gb191, 0, none⟩) (Kd.R_types (Kd.R_types (Kd.R_types HO200.out BK191.out (by decide)) BK192.out (by decide)) BK193.out (by decide)) (fun _ hk => hk.1.1.2) (.int .i64 t194)) (fun _ hk => hk.1.1.2) (.slice Ao523 t195.length co523)) (fun _ hk => hk.1.2) (.slice Ao525 t198.length co525)) (fun _ hk => hk.2) (.int .i64 0)) (fun _ hk => hk.2) (.int .i64 0)) (fun _ hk => hk.2) (.int .i64 0)) (fun _ hk => hk.2) (.int .i64 t203)) (fun _ hk => hk.1.1.1), by repeat (first | (with_reducible first | exact HB.out | apply ybA | apply ybN | apply ybD | refine ybS ?_ GE191.out | refine ybS ?_ GE192.out | refine ybS ?_ GE193.out | refine ybS ?_ GE201.out | refine ybS ?_ GE202.out) | exact HB.out)⟩
end Go.Proofs.Yteehopjgmgelnaa.PFnTraps
