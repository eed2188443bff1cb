/- The walks of what FnTraps reaches: lines of the kit's print for this claim, turned by hand where they did not build. -/
import Derived.Test.YteehopjgmgelnaaMFnTrapsx0
import Derived.Test.YteehopjgmgelnaaMFnTrapsx1
import Derived.Test.YteehopjgmgelnaaMFnTrapsx2
import Derived.Test.YteehopjgmgelnaaMFnTrapsx3
namespace Go.Proofs.Yteehopjgmgelnaa.PFnTraps
open Go.RowKit Go.Proofs.YteehopjgmgelnaaW.PrintWords Go.Proofs.YteehopjgmgelnaaW.PrintLast Go.Proofs.YteehopjgmgelnaaW.PrintMore
attribute [local go_sem] max2_int min2_int max_two min_two max_three min_three max_four min_four   -- for this text's walks alone
set_option linter.unusedVariables false
set_option linter.unusedSimpArgs false

-- NOT PRINTED: function 73 (impl_Cpu_taken)

/-! ### impl_computed: function 75 -/
def impl_computed.f (a0 : Int) (a1 : Int) (a2 : Int) : Option (Int) := if a0 = 4 then ((impl_modulo.f (wrap64 (a1 + a2)) 65536).bind fun t185 => (some t185)) else (if a0 = 5 then ((impl_modulo.f (wrap64 (a1 - a2)) 65536).bind fun t186 => (some t186)) else (if a0 = 6 then ((impl_modulo.f (wrap64 (a1 * a2)) 65536).bind fun t187 => (some t187)) else (if a0 = 7 then (if a2 = 0 then (none) else (some (wrap64 (Int.tdiv a1 a2)))) else (if a1 < a2 then (some 1) else (some 0)))))
set_option maxHeartbeats 8000000 in
set_option maxRecDepth 100000 in
theorem impl_computed.calls (a0 : Int) (a1 : Int) (a2 : Int) (r : Int) (w : World) (h : impl_computed.f a0 a1 a2 = some r) :
    Calls Try.prog 75 #[.int .i64 a0, .int .i64 a1, .int .i64 a2] w fun e w' => e = .returned (.int .i64 r) ∧ Drawn0 w w' := by
  have H : (if a0 = 4 then ((impl_modulo.f (wrap64 (a1 + a2)) 65536).bind fun t185 => (some t185)) else (if a0 = 5 then ((impl_modulo.f (wrap64 (a1 - a2)) 65536).bind fun t186 => (some t186)) else (if a0 = 6 then ((impl_modulo.f (wrap64 (a1 * a2)) 65536).bind fun t187 => (some t187)) else (if a0 = 7 then (if a2 = 0 then (none) else (some (wrap64 (Int.tdiv a1 a2)))) else (if a1 < a2 then (some 1) else (some 0)))))) = some r := h
  clear h
  by_cases c4 : a0 = 4
  · rw [if_pos c4] at H
    have c4b0 : (a0 == 4) = true := beq_iff_eq.mpr c4
    have c4b1 : (a0 != 4) = false := bne_eq_false_iff_eq.mpr c4
    clear c4
    replace H := Option.bind_eq_some_iff.mp H
    obtain ⟨t185, A50, H⟩ := H
    replace H : (some t185) = some r := H
    have A5 := Aside0.mk A50
    clear A50
    obtain rfl := Option.some.inj H
    go_enter Try.func75, Try.ntmps75
    go_wp2_with (first | ((with_reducible refine gate_callee (f := 57) rfl ?_); refine goesL_ (some 13) rfl rfl Try.func57 (by kernel_rfl) rfl #[.int .i64 (wrap64 (a1 + a2)), .int .i64 65536] rfl (by (try simp only [List.map_toArray, List.map_cons, List.map_nil]); first | done | rfl | (simp only [List.length_drop, List.length_take]; rfl)) ?_; (with_reducible refine (impl_modulo.calls (wrap64 (a1 + a2)) 65536 t185 _ A5.out).mono ?_); rintro e w' ⟨rfl, ⟨nd, rfl⟩⟩; refine ⟨_, rfl, ?_⟩))
    go_ret
    exact ⟨by first | rfl | (simp; done) | (simp [*]; done), by repeat (first | exact Drawn0.refl _ | apply Drawn0.step)⟩
  · rw [if_neg c4] at H
    have c4b0 : (a0 == 4) = false := beq_eq_false_iff_ne.mpr c4
    have c4b1 : (a0 != 4) = true := bne_iff_ne.mpr c4
    by_cases c6 : a0 = 5
    · rw [if_pos c6] at H
      have c6b0 : (a0 == 5) = true := beq_iff_eq.mpr c6
      have c6b1 : (a0 != 5) = false := bne_eq_false_iff_eq.mpr c6
      clear c6
      replace H := Option.bind_eq_some_iff.mp H
      obtain ⟨t186, A70, H⟩ := H
      replace H : (some t186) = some r := H
      have A7 := Aside0.mk A70
      clear A70
      obtain rfl := Option.some.inj H
      go_enter Try.func75, Try.ntmps75
      go_wp2_with (first | ((with_reducible refine gate_callee (f := 57) rfl ?_); refine goesL_ (some 19) rfl rfl Try.func57 (by kernel_rfl) rfl #[.int .i64 (wrap64 (a1 - a2)), .int .i64 65536] rfl (by (try simp only [List.map_toArray, List.map_cons, List.map_nil]); first | done | rfl | (simp only [List.length_drop, List.length_take]; rfl)) ?_; (with_reducible refine (impl_modulo.calls (wrap64 (a1 - a2)) 65536 t186 _ A7.out).mono ?_); rintro e w' ⟨rfl, ⟨nd, rfl⟩⟩; refine ⟨_, rfl, ?_⟩))
      go_ret
      exact ⟨by first | rfl | (simp; done) | (simp [*]; done), by repeat (first | exact Drawn0.refl _ | apply Drawn0.step)⟩
    · rw [if_neg c6] at H
      have c6b0 : (a0 == 5) = false := beq_eq_false_iff_ne.mpr c6
      have c6b1 : (a0 != 5) = true := bne_iff_ne.mpr c6
      by_cases c8 : a0 = 6
      · rw [if_pos c8] at H
        have c8b0 : (a0 == 6) = true := beq_iff_eq.mpr c8
        have c8b1 : (a0 != 6) = false := bne_eq_false_iff_eq.mpr c8
        clear c8
        replace H := Option.bind_eq_some_iff.mp H
        obtain ⟨t187, A90, H⟩ := H
        replace H : (some t187) = some r := H
        have A9 := Aside0.mk A90
        clear A90
        obtain rfl := Option.some.inj H
        go_enter Try.func75, Try.ntmps75
        go_wp2_with (first | ((with_reducible refine gate_callee (f := 57) rfl ?_); refine goesL_ (some 25) rfl rfl Try.func57 (by kernel_rfl) rfl #[.int .i64 (wrap64 (a1 * a2)), .int .i64 65536] rfl (by (try simp only [List.map_toArray, List.map_cons, List.map_nil]); first | done | rfl | (simp only [List.length_drop, List.length_take]; rfl)) ?_; (with_reducible refine (impl_modulo.calls (wrap64 (a1 * a2)) 65536 t187 _ A9.out).mono ?_); rintro e w' ⟨rfl, ⟨nd, rfl⟩⟩; refine ⟨_, rfl, ?_⟩))
        go_ret
        exact ⟨by first | rfl | (simp; done) | (simp [*]; done), by repeat (first | exact Drawn0.refl _ | apply Drawn0.step)⟩
      · rw [if_neg c8] at H
        have c8b0 : (a0 == 6) = false := beq_eq_false_iff_ne.mpr c8
        have c8b1 : (a0 != 6) = true := bne_iff_ne.mpr c8
        by_cases c10 : a0 = 7
        · rw [if_pos c10] at H
          have c10b0 : (a0 == 7) = true := beq_iff_eq.mpr c10
          have c10b1 : (a0 != 7) = false := bne_eq_false_iff_eq.mpr c10
          clear c10
          by_cases c11 : a2 = 0
          · rw [if_pos c11] at H
            exact absurd H (by simp)
          · rw [if_neg c11] at H
            have c11b0 : (a2 == 0) = false := beq_eq_false_iff_ne.mpr c11
            have c11b1 : (a2 != 0) = true := bne_iff_ne.mpr c11
            obtain rfl := Option.some.inj H
            go_enter Try.func75, Try.ntmps75
            go_wp2
            go_ret
            exact ⟨by first | rfl | (simp; done) | (simp [*]; done), by repeat (first | exact Drawn0.refl _ | apply Drawn0.step)⟩
        · rw [if_neg c10] at H
          have c10b0 : (a0 == 7) = false := beq_eq_false_iff_ne.mpr c10
          have c10b1 : (a0 != 7) = true := bne_iff_ne.mpr c10
          by_cases c12 : a1 < a2
          · rw [if_pos c12] at H
            have c12b0 : decide (a1 < a2) = true := decide_eq_true c12
            clear c12
            obtain rfl := Option.some.inj H
            go_enter Try.func75, Try.ntmps75
            go_wp2
            go_ret
            exact ⟨by first | rfl | (simp; done) | (simp [*]; done), by repeat (first | exact Drawn0.refl _ | apply Drawn0.step)⟩
          · rw [if_neg c12] at H
            have c12b0 : decide (a1 < a2) = false := decide_eq_false c12
            clear c12
            obtain rfl := Option.some.inj H
            go_enter Try.func75, Try.ntmps75
            go_wp2
            go_ret
            exact ⟨by first | rfl | (simp; done) | (simp [*]; done), by repeat (first | exact Drawn0.refl _ | apply Drawn0.step)⟩

/-! ### impl_put: function 71, by hand -/
set_option maxHeartbeats 8000000 in
set_option maxRecDepth 100000 in
theorem impl_put.calls (w0 : World) (g : Nat) (pc n : Int) (v : Value) (xs : List Int) (ok : Nat → Prop) (w : World) (hk : w.heap[g]? = some (.cells #[.int .i64 pc, v] 52 (0, 0))) (ho : Kd.R (Kd.int .i64) 3 w w0.heap.size ok v xs) (hb0 : Below w0.heap.size w0 w) (hf : ∀ k_, w.heap.size ≤ k_ → ok k_) (hL : xs.length < 17592186044416) :
    Calls Try.prog 71 #[.pointer (some ⟨g, 0, none⟩), .int .i64 n] w fun e w' => e = .returned (.tuple #[]) ∧ ∃ (v1 : Value) (w1 : World), w' = w1.setCell ⟨g, 1, none⟩ v1 ∧ Kd.R (Kd.int .i64) 3 w1 w0.heap.size ok v1 (xs ++ [n]) ∧ Below w0.heap.size w0 w1 ∧ (∀ (h : Nat) (o : Obj), w.heap[h]? = some o → some h ≠ v.ownBlock → w1.heap[h]? = some o) := by
  have hu52 := Try.underlying52
  have HO := Aside0.mk ho
  have BK := Aside0.mk hk
  have HB := Aside0.mk hb0
  have LM := Aside0.mk hL
  have HF := Aside0.mk hf
  clear ho hk hb0 hL hf
  obtain ⟨A_, c_, e_⟩ := Kd.R_slice HO.out
  subst e_
  have hcz0 : w.cell? ⟨g, 0, none⟩ = some (.int .i64 pc) := (blk_cell BK.out 0).trans rfl
  have hcz1 : w.cell? ⟨g, 1, none⟩ = some (.slice A_ xs.length c_) := (blk_cell BK.out 1).trans rfl
  have hfz0 := blk_frozen BK.out 0
  have hfz1 := blk_frozen BK.out 1
  go_enter Try.func71, Try.ntmps71
  go_wp2_with (first | ((with_reducible refine gate_builtin (b := .append) (xs := #[.tmp 8, .tmp 10]) rfl ?_); (try (refine gate_guard (by rfl) ?_; dsimp only)); at_builtin; refine Kd.R_append (Kd.int .i64) (w0 := w0) w0.heap.size rfl (.tmp 8) (.tmp 10) 26 3 (.int .i64 0) 8 rfl Try.underlying26 info3 rfl (by decide) (by omega) (.slice A_ xs.length c_) xs n [.int .i64 n] ok (fun _ => False) rfl rfl ?aP (fun _ hk => hk.elim) ?aF ?aO ?aB ?aS ?aL ?_; (case aP => exact rfl); (case aB => exact (by repeat (first | (with_reducible first | exact HB.out | apply below_alloc | apply pw_below_drewN | apply below_drew1) | exact HB.out))); (case aF => exact (fun k_ hk_ => HF.out k_ (Nat.le_trans (by simp) hk_))); (case aO => exact (by (with_reducible repeat (first | apply Kd.R_alloc | apply Kd.R_drewN | apply Kd.R_drew)); exact HO.out)); (case aS => exact (below_size (by repeat (first | (with_reducible first | exact HB.out | apply below_alloc | apply pw_below_drewN | apply below_drew1) | exact HB.out)))); (case aL => have := LM.out; omega); intro v1_ w1_ ho hb hg hat; have n0_ := Aside0.mk (blk_grown (g := g) (o := .cells #[.int .i64 pc, .slice A_ xs.length c_] 52 (0, 0)) (by (with_reducible repeat (first | refine blk_drewN ?_ _ | refine blk_drew ?_ | refine blk_alloc ?_ _)); exact BK.out) hg (Kd.R_ne HO.out BK.out (by decide))); have n1_ := Aside0.mk hb; have n2_ := Aside0.mk ho; have n3_ : Aside0 (∀ (h : Nat) (o : Obj), w.heap[h]? = some o → some h ≠ (.slice A_ xs.length c_ : Value).ownBlock → w1_.heap[h]? = some o) := ⟨fun h o e1 e2 => blk_grown (by (with_reducible repeat (first | refine blk_drewN ?_ _ | refine blk_drew ?_ | refine blk_alloc ?_ _)); exact e1) hg e2⟩; clear BK; clear HB; clear HO; have BK := n0_; have HB := n1_; have HO := n2_; have HG := n3_; clear n0_ n1_ n2_ n3_; clear ho hb hg hat; obtain ⟨B_, d_, e2_⟩ := Kd.R_slice HO.out; subst e2_; have hcy0 : w1_.cell? ⟨g, 0, none⟩ = some (.int .i64 pc) := (blk_cell BK.out 0).trans rfl; have hcy1 : w1_.cell? ⟨g, 1, none⟩ = some (.slice A_ xs.length c_) := (blk_cell BK.out 1).trans rfl; have hfy0 := blk_frozen BK.out 0; have hfy1 := blk_frozen BK.out 1))
  go_end0
  exact ⟨rfl, .slice B_ (xs ++ [n]).length d_, w1_, by rw [show (xs ++ [n]).length = xs.length + 1 from by simp], HO.out, HB.out, HG.out⟩

/-! ### impl_taken: function 73, by hand -/
set_option maxHeartbeats 8000000 in
set_option maxRecDepth 100000 in
theorem impl_taken.calls (w0 : World) (g : Nat) (pc n : Int) (m : Nat) (v : Value) (xs : List Int) (ok : Nat → Prop) (w : World) (hk : w.heap[g]? = some (.cells #[.int .i64 pc, v] 52 (0, 0))) (ho : Kd.R (Kd.int .i64) 3 w w0.heap.size ok v xs) (hb0 : Below w0.heap.size w0 w) (hn0 : 0 ≤ n) (hm : n + (m : Int) = (xs.length : Int)) (hL : xs.length < 17592186044416) :
    Calls Try.prog 73 #[.pointer (some ⟨g, 0, none⟩), .int .i64 n] w fun e w' => ∃ (v1 v2 : Value) (w1 : World), e = .returned v2 ∧ w' = w1.setCell ⟨g, 1, none⟩ v1 ∧ Kd.R (Kd.int .i64) 3 w1 w0.heap.size ok v1 (xs.take m) ∧ Kd.R (Kd.int .i64) 3 w1 w.heap.size (fun _ => True) v2 (xs.drop m) ∧ Below w.heap.size w w1 ∧ v1.ownBlock = v.ownBlock := by
  have hu52 := Try.underlying52
  obtain ⟨A_, c_, e_⟩ := Kd.R_slice ho
  subst e_
  obtain ⟨-, hlc, hC⟩ := Kd.R_reads' ho
  have hmx : m ≤ xs.length := by omega
  have hT := Kd.R_take ho hmx
  have hD := Kd.C_drop hC hmx hlc
  have hcp : impl_copyInts.f (xs.drop m) = some (xs.drop m) := by
    have : (xs.drop m).length < 17592186044416 := by rw [List.length_drop]; omega
    simp only [impl_copyInts.f, Option.bind_some, List.length_nil, Nat.zero_add, List.nil_append, if_pos this]
  obtain ⟨i3, hi3, he3⟩ := Option.map_eq_some_iff.1 info3
  have hz3 : i3.size = 1 := by simp only [Prod.mk.injEq] at he3; exact he3.2.1
  have hs1 : ∀ W : World, (Instr.slice 26 (.slice A_ xs.length c_) (some (.int .i64 (m : Int))) none none).run Try.prog W = .ok (.slice (if c_ = m then A_ else A_.map (·.add (m * 1))) (xs.drop m).length (c_ - m)) W := fun W => by
    rw [List.length_drop]
    exact cut_from 26 3 .i64 Try.underlying26 hi3 1 hz3 A_ xs.length c_ (m : Int) (by omega) (by omega) W
  have hs2 : ∀ W : World, (Instr.slice 26 (.slice A_ xs.length c_) none (some (.int .i64 (m : Int))) none).run Try.prog W = .ok (.slice A_ m c_) W := fun W =>
    cut_to 26 3 .i64 Try.underlying26 hi3 A_ xs.length c_ (m : Int) (by omega) (by omega) hlc W
  have hc2 : (xs.drop m).length ≤ c_ - m := by rw [List.length_drop]; omega
  obtain ⟨A2, hA2⟩ : ∃ a : Option Addr, a = (if c_ = m then A_ else A_.map (·.add (m * 1))) := ⟨_, rfl⟩
  replace hD : Kd.C (Kd.int .i64) w A2 (xs.drop m).length (xs.drop m) := by rw [hA2]; exact hD
  rw [← hA2] at hs1
  obtain ⟨c2, hcc⟩ : ∃ c : Nat, c = c_ - m := ⟨_, rfl⟩
  rw [← hcc] at hs1 hc2
  obtain ⟨ys, hys⟩ : ∃ l : List Int, l = xs.drop m := ⟨_, rfl⟩
  rw [← hys] at hs1 hc2 hD hcp
  have HY := Aside0.mk hys
  have HC2 := Aside0.mk hc2
  clear hA2 hcc hys hc2
  have hsub : wrap64 ((xs.length : Int) - n) = (m : Int) := by rw [show (xs.length : Int) - n = (m : Int) by omega]; unfold wrap64; omega
  have HD := Aside0.mk hD
  have HT := Aside0.mk hT
  have BK := Aside0.mk hk
  have HB := Aside0.mk (Below.refl w.heap.size w)
  have HL := Aside0.mk hlc
  have HM := Aside0.mk hm
  have HX := Aside0.mk hmx
  have HO := Aside0.mk ho
  have HC := Aside0.mk hcp
  have hcz0 : w.cell? ⟨g, 0, none⟩ = some (.int .i64 pc) := (blk_cell BK.out 0).trans rfl
  have hcz1 : w.cell? ⟨g, 1, none⟩ = some (.slice A_ xs.length c_) := (blk_cell BK.out 1).trans rfl
  have hfz0 := blk_frozen BK.out 0
  have hfz1 := blk_frozen BK.out 1
  clear hD hT hk hlc hm hmx ho hcp hC hb0 hn0 hL
  go_enter Try.func73, Try.ntmps73
  go_wp2_with (first | ((with_reducible refine gate_callee (f := 84) rfl ?_); refine goesL_ (some 20) rfl rfl Try.func84 (by kernel_rfl) rfl #[.slice A2 ys.length c2] rfl (by (try simp only [List.map_toArray, List.map_cons, List.map_nil]); first | done | rfl) ?_; (with_reducible refine (impl_copyInts.calls _ _ ys ys _ ?side1 ?side2 HC.out).mono ?_); (case side1 => exact Kd.C_below HD.out (by repeat (first | (with_reducible first | exact HB.out | apply below_alloc | apply pw_below_drewN | apply below_drew1) | exact HB.out))); (case side2 => exact HC2.out); rintro e w1_ ⟨v2_, rfl, ho2, hb⟩; refine ⟨_, rfl, ?_⟩; have n0_ := Aside0.mk (blk_below (by (with_reducible repeat (first | refine blk_drewN ?_ _ | refine blk_drew ?_ | refine blk_alloc ?_ _)); exact BK.out) hb); have n1_ := Aside0.mk (below_step (by repeat (first | (with_reducible first | exact HB.out | apply below_alloc | apply pw_below_drewN | apply below_drew1) | exact HB.out)) hb); have HO2 := Aside0.mk (Kd.R_lower ho2 (below_size (by repeat (first | (with_reducible first | exact HB.out | apply below_alloc | apply pw_below_drewN | apply below_drew1) | exact HB.out)))); clear BK HB; have BK := n0_; have HB := n1_; clear n0_ n1_ ho2 hb; have hcy0 : w1_.cell? ⟨g, 0, none⟩ = some (.int .i64 pc) := (blk_cell BK.out 0).trans rfl; have hcy1 : w1_.cell? ⟨g, 1, none⟩ = some (.slice A_ xs.length c_) := (blk_cell BK.out 1).trans rfl; have hfy0 := blk_frozen BK.out 0; have hfy1 := blk_frozen BK.out 1))
  go_ret
  exact ⟨_, _, _, rfl, rfl, Kd.R_below HT.out HB.out, by rw [← HY.out]; exact HO2.out, HB.out, by cases A_ <;> rfl⟩
/-! ### impl_StepCpu: function 38 (push, reckonings, jumps, the time; every trap): by hand -/
/-- What an instruction without a trap does: the others (they are not told) give none. -/
def impl_StepCpu.o (op arg pc1 a4 : Int) (st li ar : List Int) : Option (Int × List Int × List Int × Int × Int × Int × Int) :=
  if op = 1 then (if st.length < 17592186044416 then some (pc1, st ++ [arg], ar, 0, 0, 0, 0) else none)
  else if op = 9 then some (mn arg 60, st, ar, 0, 0, 0, 0)
  else if op = 10 then (if 0 < li.length then (if rd li 0 = 0 then some (mn arg 60, st, ar, 0, 0, 0, 0) else some (pc1, st, ar, 0, 0, 0, 0)) else none)
  else if op = 17 then ((impl_modulo.f a4 65536).bind fun t => if st.length < 17592186044416 then some (pc1, st ++ [t], ar, 0, 0, 0, 0) else none)
  else none
def impl_StepCpu.f (k : Nat) (a0_0 : Int) (l0_1 : List Int) (l1 : List (S64)) (l2_0 : List Int) (a3_0 : Int) (a3_1 : Int) (a4 : Int) : Option (Int × List Int × List Int × Int × Int × Int × Int) :=
  (impl_copyCpu.f a0_0 l0_1).bind fun b => (impl_copyArena.f l2_0).bind fun ar => (impl_trapOf.f k a0_0 l0_1 l1 l2_0 a3_0 a3_1).bind fun t =>
    if t = 0 then (if 0 ≤ a0_0 ∧ a0_0 < (l1.length : Int) then ((impl_takes.f k ((rd_T64 l1 a0_0).f0)).bind fun n => if 0 ≤ n ∧ n ≤ (b.2.length : Int) ∧ b.2.length < 17592186044416 then impl_StepCpu.o ((rd_T64 l1 a0_0).f0) ((rd_T64 l1 a0_0).f1) (wrap64 (b.1 + 1)) a4 (b.2.take (b.2.length - n.toNat)) (b.2.drop (b.2.length - n.toNat)) ar else none) else none)
    else some (b.1, b.2, ar, 0, 0, 0, t)
theorem impl_StepCpu.mono : ∀ a0 a1 a2 a3 a4 a5 a6 k, LeO (impl_StepCpu.f k a0 a1 a2 a3 a4 a5 a6) (impl_StepCpu.f (k + 1) a0 a1 a2 a3 a4 a5 a6) := by
  intro a0 a1 a2 a3 a4 a5 a6 k
  unfold impl_StepCpu.f
  repeat' first
      | (with_reducible exact impl_takes.mono _ _)
      | (with_reducible exact impl_trapOf.mono _ _ _ _ _ _ _)
      | (with_reducible exact LeO.refl _)
      | (with_reducible exact LeO.none _)
      | (with_reducible refine LeO.ite ?_ ?_)
      | (with_reducible refine LeO.bind ?_ (fun _ => ?_))
      | exact impl_takes.mono _ _
      | exact impl_trapOf.mono _ _ _ _ _ _ _
      | exact LeO.refl _
      | exact LeO.none _
      | refine LeO.ite ?_ ?_
      | refine LeO.bind ?_ (fun _ => ?_)
theorem impl_StepCpu.o_inv {op arg pc1 a4 : Int} {st li ar : List Int} {r1 : Int} {r2 r3 : List Int} {r4 r5 r6 r7 : Int} (h : impl_StepCpu.o op arg pc1 a4 st li ar = some (r1, r2, r3, r4, r5, r6, r7)) :
    r3 = ar ∧ r4 = 0 ∧ r5 = 0 ∧ r6 = 0 ∧ r7 = 0 ∧ ((op = 1 ∧ st.length < 17592186044416 ∧ r1 = pc1 ∧ r2 = st ++ [arg]) ∨ (op = 9 ∧ r1 = mn arg 60 ∧ r2 = st) ∨ (op = 10 ∧ 0 < li.length ∧ rd li 0 = 0 ∧ r1 = mn arg 60 ∧ r2 = st) ∨ (op = 10 ∧ 0 < li.length ∧ rd li 0 ≠ 0 ∧ r1 = pc1 ∧ r2 = st) ∨ (op = 17 ∧ st.length < 17592186044416 ∧ ∃ t, impl_modulo.f a4 65536 = some t ∧ r1 = pc1 ∧ r2 = st ++ [t])) := by
  unfold impl_StepCpu.o at h
  split at h
  · rename_i c
    split at h
    · rename_i c2
      simp only [Option.some.injEq, Prod.mk.injEq] at h
      obtain ⟨rfl, rfl, rfl, rfl, rfl, rfl, rfl⟩ := h
      exact ⟨rfl, rfl, rfl, rfl, rfl, .inl ⟨c, c2, rfl, rfl⟩⟩
    · cases h
  · split at h
    · rename_i c
      simp only [Option.some.injEq, Prod.mk.injEq] at h
      obtain ⟨rfl, rfl, rfl, rfl, rfl, rfl, rfl⟩ := h
      exact ⟨rfl, rfl, rfl, rfl, rfl, .inr (.inl ⟨c, rfl, rfl⟩)⟩
    · split at h
      · rename_i c
        split at h
        · rename_i c2
          split at h
          · rename_i c3
            simp only [Option.some.injEq, Prod.mk.injEq] at h
            obtain ⟨rfl, rfl, rfl, rfl, rfl, rfl, rfl⟩ := h
            exact ⟨rfl, rfl, rfl, rfl, rfl, .inr (.inr (.inl ⟨c, c2, c3, rfl, rfl⟩))⟩
          · rename_i c3
            simp only [Option.some.injEq, Prod.mk.injEq] at h
            obtain ⟨rfl, rfl, rfl, rfl, rfl, rfl, rfl⟩ := h
            exact ⟨rfl, rfl, rfl, rfl, rfl, .inr (.inr (.inr (.inl ⟨c, c2, c3, rfl, rfl⟩)))⟩
        · cases h
      · split at h
        · rename_i c
          obtain ⟨t, ht, h⟩ := Option.bind_eq_some_iff.mp h
          split at h
          · rename_i c2
            simp only [Option.some.injEq, Prod.mk.injEq] at h
            obtain ⟨rfl, rfl, rfl, rfl, rfl, rfl, rfl⟩ := h
            exact ⟨rfl, rfl, rfl, rfl, rfl, .inr (.inr (.inr (.inr ⟨c, c2, t, ht, rfl, rfl⟩)))⟩
          · cases h
        · cases h

def impl_StepCpu.T1 : Bool × List (List Nat × List Nat) := (true, [([], []), ([0], [0]), ([], []), ([2, 1], [2]), ([], []), ([], []), ([4, 1, 3, 0, 1, 3, 4, 5], [1, 4]), ([5, 3, 6, 0, 1, 2, 3, 4, 5, 6], [3, 5])])
def impl_StepCpu.B1 : List Nat := [0, 1, 0, 7, 0, 0, 63, 127]
theorem impl_StepCpu.tab1 : rtab .any (opsOf Try.f38 1) = impl_StepCpu.T1 := by kernel_rfl
theorem impl_StepCpu.bits1 : waitsOk impl_StepCpu.T1.2 impl_StepCpu.B1 = true := by kernel_rfl
end Go.Proofs.Yteehopjgmgelnaa.PFnTraps
