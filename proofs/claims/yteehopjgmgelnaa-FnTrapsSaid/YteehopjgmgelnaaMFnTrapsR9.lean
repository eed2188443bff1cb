/- Region 9 of FnTraps: the full stack. Own work for this claim. -/
import Derived.Test.YteehopjgmgelnaaMFnTrapsC
namespace Go.Proofs.Yteehopjgmgelnaa.PFnTraps
open Go.RowKit Go.Proofs.YteehopjgmgelnaaW.PrintWords Go.Proofs.YteehopjgmgelnaaW.PrintLast Go.Proofs.YteehopjgmgelnaaW.PrintMore
set_option linter.unusedVariables false
set_option linter.unusedSimpArgs false

set_option maxHeartbeats 4000000 in
set_option maxRecDepth 100000 in
theorem reg9 {p ar : List Int} {gp cp : Nat} {A : Option Addr} {cA gA gR : Nat} (a0 : Act) (w0 : World) (Q : Exit → Act → World → Prop) (hB : Bs a0 w0 p ar gp cp A cA gA gR)
    (hQ : ∀ a w g AS cS, Bs a w p ar gp cp A cA gA gR → Below w0.heap.size w0 w → (∀ t, ([66, 67, 15] : List Nat).contains t = false → a.tmps[t]? = a0.tmps[t]?) → a.tmps[15]? = some (.pointer (some ⟨g, 0, none⟩)) → w.heap[g]? = some (.cells #[.int .i64 0, .slice AS (List.replicate 8 (0 : Int)).length cS] 52 (0, 0)) → Kd.R (Kd.int .i64) 3 w 0 (fun _ => True) (.slice AS (List.replicate 8 (0 : Int)).length cS) (List.replicate 8 (0 : Int)) → Q .normal a w) :
    (Code.region 9 (opsOf Try.f9 9) false).wp Try.prog Q a0 w0 := by
  obtain ⟨ops, hops⟩ : ∃ o, o = opsOf Try.f9 9 := ⟨_, rfl⟩
  rw [← hops]
  simp only [opsOf, opsIn, Try.f9, Option.bind_some, Option.getD_some, Nat.reduceBEq, Bool.false_eq_true, if_false, if_true, beq_self_eq_true] at hops
  subst hops
  have hu26 := Try.underlying26
  have hu52 := Try.underlying52
  have hz : ∀ t, Nat.ble (t + 1) 124 = true → Nat.ble (t + 1) a0.tmps.size = true := fun t ht => by rw [hB.sz]; exact ht
  refine seq_inv (B := [0, 1, 0, 7]) (n := 4) [0, 1, 2, 3] (fun b a w => ∃ (v x : Value) (g : Nat), a = putSel a0 b [(0, 66, v), (1, 67, x), (2, 15, .pointer (some ⟨g, 0, none⟩))] ∧ Below w0.heap.size w0 w ∧ (b 0 = true → Kd.R (Kd.int .i64) 3 w 0 (fun _ => True) v (List.replicate 8 (0 : Int))) ∧ (b 1 = true → x = .agg #[.int .i64 0, v]) ∧ (b 2 = true → w0.heap.size ≤ g ∧ w.heap[g]? = some (.cells (if b 3 = true then #[.int .i64 0, v] else #[.int .i64 0, .slice none 0 0]) 52 (0, 0)))) (by kernel_rfl) (by decide) (by kernel_rfl) ?_ ?_ ?_
  · exact ⟨.bool false, .bool false, 0, by simp only [putSel, Bool.false_eq_true, if_false], Below.refl _ _, nofun, nofun, nofun⟩
  · skip
    refine steps_cons ?_ ?_
    · rintro b a w ⟨v, x, g, ha0, hb, hv, hx, hg⟩ hb_ hon hoff
      refine ⟨_, rfl, fun K hK => ?_⟩
      have ha := Aside0.mk ha0
      clear ha0
      refine Kd.R_make_step (Kd.int .i64) w.heap.size 3 (by rfl) (N := 66) rfl 26 (.const (.int .i64 8)) (.const (.int .i64 8)) rfl 8 rfl rfl Try.underlying26 (.int .i64 0) 8 (by kernel_rfl) rfl (by decide) (by decide) (0 : Int) (w0 := w) (ok := fun _ => True) (okp := fun _ => True) ?hz0 (fun _ hk => hk) trivial (by decide) (by decide) (Below.refl _ _) (Nat.le_refl _) ?_
      case hz0 => rfl
      intro u w1 hu hb0 hg_ hn_
      exact hK.out _ _ ⟨u, x, g, (by rw [ha.out]; exact putSel_upk 0 hb_ rfl rfl rfl), below_step hb hb0, fun _ => Kd.R_lower hu (Nat.zero_le _), fun h_ => absurd ((hoff 1 (by kernel_rfl)).symm.trans h_) (by decide), fun h_ => ⟨(hg h_).1, by have h3 : b 3 = false := hoff 3 (by kernel_rfl); have h4 := blk_below (hg h_).2 hb0; rw [h3] at h4; show w1.heap[g]? = some (.cells (if b 3 = true then _ else _) 52 (0, 0)); rw [h3]; exact h4⟩⟩
    refine steps_cons ?_ ?_
    · rintro b a w ⟨v, x, g, ha0, hb, hv, hx, hg⟩ hb_ hon hoff
      refine ⟨_, rfl, fun K hK => ?_⟩
      have ha := Aside0.mk ha0
      clear ha0
      obtain ⟨Ax, cx, ex⟩ := Kd.R_slice (hv (hon 0 (by kernel_rfl)))
      subst ex
      have e66 : a.tmps[66]? = some (.slice Ax (List.replicate 8 (0 : Int)).length cx) := by rw [ha.out]; exact putSel_on (e := (0, 66, .slice Ax (List.replicate 8 (0 : Int)).length cx)) 0 rfl rfl (hon 0 (by kernel_rfl)) (hz _ rfl)
      refine value_ (w1 := w) (v := .agg #[.int .i64 0, .slice Ax (List.replicate 8 (0 : Int)).length cx]) (by rfl) rfl ?_ ?_
      · go_simp
        try rfl
      exact hK.out _ _ ⟨_, _, g, (by rw [ha.out]; exact putSel_upk 1 hb_ rfl rfl rfl), hb, hv, fun _ => rfl, hg⟩
    refine steps_cons ?_ ?_
    · rintro b a w ⟨v, x, g, ha0, hb, hv, hx, hg⟩ hb_ hon hoff
      refine ⟨_, rfl, fun K hK => ?_⟩
      have ha := Aside0.mk ha0
      clear ha0
      refine box_step ?hg (N := 15) ?hd (cs := #[.int .i64 0, .slice none 0 0]) (t := 52) ?hr ?_
      case hd => rfl
      case hg => rfl
      case hr => first | (go_simp; done) | (go_simp; rfl)
      intro g1 hg1 w1 hbox hb0
      exact hK.out _ _ ⟨v, x, g1, (by rw [ha.out]; exact putSel_upk 2 hb_ rfl rfl rfl), below_step hb hb0, fun h_ => Kd.R_below (hv h_) hb0, hx, fun _ => ⟨by rw [hg1]; exact hb.size, by have h3 : b 3 = false := hoff 3 (by kernel_rfl); show w1.heap[g1]? = some (.cells (if b 3 = true then _ else _) 52 (0, 0)); rw [h3]; exact hbox⟩⟩
    refine steps_cons ?_ ?_
    · rintro b a w ⟨v, x, g, ha0, hb, hv, hx, hg⟩ hb_ hon hoff
      refine ⟨_, rfl, fun K hK => ?_⟩
      have ha := Aside0.mk ha0
      clear ha0
      obtain ⟨Ax, cx, ex⟩ := Kd.R_slice (hv (hon 0 (by kernel_rfl)))
      subst ex
      have e15 : a.tmps[15]? = some (.pointer (some ⟨g, 0, none⟩)) := by rw [ha.out]; exact putSel_on (e := (2, 15, .pointer (some ⟨g, 0, none⟩))) 2 rfl rfl (hon 2 (by kernel_rfl)) (hz _ rfl)
      have e67 : a.tmps[67]? = some (x) := by rw [ha.out]; exact putSel_on (e := (1, 67, x)) 1 rfl rfl (hon 1 (by kernel_rfl)) (hz _ rfl)
      rw [hx (hon 1 (by kernel_rfl))] at e67
      have kk := Aside0.mk (hg (hon 2 (by kernel_rfl))).2
      have gg := (hg (hon 2 (by kernel_rfl))).1
      rw [hb_] at kk
      simp only [Bool.false_eq_true, if_false] at kk
      have hs0_ : w.cell? ⟨g, 0, none⟩ = some (.int .i64 0) := (blk_cell kk.out 0).trans rfl
      have hf0_ := blk_frozen kk.out 0
      have hs1_ : w.cell? ⟨g, 1, none⟩ = some (.slice none 0 0) := (blk_cell kk.out 1).trans rfl
      have hf1_ := blk_frozen kk.out 1
      refine skip_ (w1 := ?_) (by rfl) rfl ?_ ?_
      rotate_left
      · go_simp
        rfl
      have kk1 := blk_put kk.out 0 (.int .i64 0) rfl
      exact hK.out _ _ ⟨_, x, g, (by rw [ha.out]; exact putSel_none (v := undef) rfl), below_set (below_set hb gg) gg, fun h_ => RB.far (RB.far (hv h_) kk.out (by decide)) kk1 (by decide), hx, fun _ => ⟨gg, blk_put kk1 1 _ rfl⟩⟩
    exact steps_nil
  · rintro b a w hall ⟨v, x, g, ha, hb, hv, hx, hg⟩
    have hs := putSel_size b [(0, 66, v), (1, 67, x), (2, 15, .pointer (some ⟨g, 0, none⟩))] a0
    have k0 := (hg (hall 2 (by kernel_rfl))).2
    rw [hall 3 (by kernel_rfl), if_pos rfl] at k0
    have hoff : ∀ t, ([66, 67, 15] : List Nat).contains t = false → a.tmps[t]? = a0.tmps[t]? := by
      intro t ht
      rw [ha]
      refine putSel_off ?_
      simp only [List.contains_cons, List.contains_nil, Bool.or_false, Bool.or_eq_false_iff] at ht
      simp only [List.all_cons, List.all_nil, Bool.and_true, Bool.and_eq_true, Bool.not_eq_true']
      simpa only [eq_comm (a := t), Bool.beq_comm (a := t)] using ht
    obtain ⟨AS, cS, eS⟩ := Kd.R_slice (hv (hall 0 (by kernel_rfl)))
    subst eS
    exact hQ a w g AS cS (hB.on hb (by rw [ha]; exact hs.1) (by rw [ha]; exact hs.2) (hoff 3 rfl) (hoff 4 rfl) (hoff 5 rfl)) hb hoff (by rw [ha]; exact putSel_on (e := (2, 15, .pointer (some ⟨g, 0, none⟩))) 2 rfl rfl (hall 2 (by kernel_rfl)) (hz _ rfl)) k0 (hv (hall 0 (by kernel_rfl)))
end Go.Proofs.Yteehopjgmgelnaa.PFnTraps
