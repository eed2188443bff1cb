/- Region 12 of FnTraps: what is handed back. Own work for this claim. -/
import Derived.Test.YteehopjgmgelnaaMFnTrapsC
namespace Go.Proofs.Yteehopjgmgelnaa.PFnTraps
open Go.RowKit Go.Proofs.YteehopjgmgelnaaW.PrintWords Go.Proofs.YteehopjgmgelnaaW.PrintLast Go.Proofs.YteehopjgmgelnaaW.PrintMore
set_option linter.unusedVariables false
set_option linter.unusedSimpArgs false

set_option maxHeartbeats 4000000 in
set_option maxRecDepth 100000 in
theorem reg12 {p ar : List Int} {gp cp : Nat} {A : Option Addr} {cA gA gR h8 h11 h14 h18 h21 gx gs nS cS : Nat} (a0 : Act) (w0 : World) (Q : Exit → Act → World → Prop) (hp : 2 < p.length) (hB : Bs a0 w0 p ar gp cp A cA gA gR)
    (s8 : a0.tmps[8]? = some (.pointer (some ⟨h8, 0, none⟩))) (c8 : w0.cell? ⟨h8, 3, none⟩ = some (.int .i64 5)) (s11 : a0.tmps[11]? = some (.pointer (some ⟨h11, 0, none⟩))) (c11 : w0.cell? ⟨h11, 3, none⟩ = some (.int .i64 6)) (s14 : a0.tmps[14]? = some (.pointer (some ⟨h14, 0, none⟩))) (c14 : w0.cell? ⟨h14, 3, none⟩ = some (.int .i64 1)) (s18 : a0.tmps[18]? = some (.pointer (some ⟨h18, 0, none⟩))) (c18 : w0.cell? ⟨h18, 3, none⟩ = some (.int .i64 4)) (s21 : a0.tmps[21]? = some (.pointer (some ⟨h21, 0, none⟩))) (c21 : w0.cell? ⟨h21, 3, none⟩ = some (.int .i64 0))
    (s19 : a0.tmps[19]? = some (.pointer (some ⟨gx, 0, none⟩))) (cx : w0.cell? ⟨gx, 1, none⟩ = some (.slice (some ⟨gs, 0, none⟩) nS cS)) (hn : 0 < nS) (cs : w0.cell? ⟨gs, 0, none⟩ = some (.int .i64 (rd p 2)))
    (hQ : ∀ a w, a.defers = [] → a.tmps[2]? = some (.bool true) → Below w0.heap.size w0 w → Q .normal a w) :
    (Code.region 12 (opsOf Try.f9 12) true).wp Try.prog Q a0 w0 := by
  obtain ⟨ops, hops⟩ : ∃ o, o = opsOf Try.f9 12 := ⟨_, rfl⟩
  rw [← hops]
  simp only [opsOf, opsIn, Try.f9, Option.bind_some, Option.getD_some, Nat.reduceBEq, Bool.false_eq_true, if_false, if_true, beq_self_eq_true] at hops
  subst hops
  have hu26 := Try.underlying26
  have hu52 := Try.underlying52
  have hu60 := Try.underlying60
  have hz : ∀ t, Nat.ble (t + 1) 124 = true → Nat.ble (t + 1) a0.tmps.size = true := fun t ht => by rw [hB.sz]; exact ht
  have p0_ : (0 ≤ (2 : Int)) = True := eq_true (by omega)
  have q0_ : ((2 : Int) < (p.length : Int)) = True := eq_true (by omega)
  have qi_ : (2 < p.length) = True := eq_true (by omega)
  have q1_ : ((0 : Int) < (nS : Int)) = True := eq_true (by omega)
  have qj_ : (0 < nS) = True := eq_true hn
  refine any_inv (B := [0, 1, 3, 7, 15, 31, 63, 127, 255, 511, 1023, 2047, 4095, 8191, 16383, 32767, 65535, 131071, 262143, 524287, 1048575, 2097151, 4194303, 8388607, 16777215, 33554431, 67108863, 134217727, 16777215, 285212671, 822083583, 2147483647, 4294967295, 8589934591]) (n := 34) [0, 1, 2, 3, 4, 5, 6, 7, 8, 9, 10, 11, 12, 13, 14, 15, 16, 17, 18, 19, 20, 21, 22, 23, 24, 25, 26, 27, 28, 29, 30, 31, 32, 33] (fun b a w => a = putSel a0 b [(0, 91, .pointer (some ⟨h8, 3, none⟩)), (1, 92, .int .i64 5), (2, 93, .bool true), (3, 94, .bool true), (4, 95, .pointer (some ⟨h11, 3, none⟩)), (5, 96, .int .i64 6), (6, 97, .bool true), (7, 98, .bool true), (8, 99, .bool true), (9, 100, .pointer (some ⟨h14, 3, none⟩)), (10, 101, .int .i64 1), (11, 102, .bool true), (12, 103, .bool true), (13, 104, .bool true), (14, 105, .pointer (some ⟨h18, 3, none⟩)), (15, 106, .int .i64 4), (16, 107, .bool true), (17, 108, .bool true), (18, 109, .bool true), (19, 110, .pointer (some ⟨h21, 3, none⟩)), (20, 111, .int .i64 0), (21, 112, .bool true), (22, 113, .bool true), (23, 114, .bool true), (24, 115, .pointer (some ⟨gx, 1, none⟩)), (25, 116, .slice (some ⟨gs, 0, none⟩) nS cS), (26, 117, .pointer (some ⟨gs, 0, none⟩)), (27, 118, .int .i64 (rd p 2)), (28, 119, .slice (some ⟨gp, 0, none⟩) p.length cp), (29, 120, .pointer (some ⟨gp, 2, none⟩)), (30, 121, .int .i64 (rd p 2)), (31, 122, .bool true), (32, 123, .bool true), (33, 2, .bool true)] ∧ w = w0.drew) rfl (by kernel_rfl) (by kernel_rfl) (by kernel_rfl) (by kernel_rfl) ?_ ?_ ?_
  · exact ⟨by simp only [putSel, Bool.false_eq_true, if_false], rfl⟩
  · skip
    refine steps_cons ?_ ?_
    · rintro b a w ⟨ha0, rfl⟩ hb_ hon hoff
      refine ⟨_, rfl, fun K hK => ?_⟩
      have ha := Aside0.mk ha0
      clear ha0
      have e8 : a.tmps[8]? = some (.pointer (some ⟨h8, 0, none⟩)) := by rw [ha.out]; exact (putSel_off rfl).trans s8
      refine value_ (w1 := w0.drew) (v := .pointer (some ⟨h8, 3, none⟩)) (by rfl) rfl ?_ ?_
      · go_simp
        try rfl
      exact hK.out _ _ ⟨(by rw [ha.out]; exact putSel_upk 0 hb_ rfl rfl rfl), rfl⟩
    refine steps_cons ?_ ?_
    · rintro b a w ⟨ha0, rfl⟩ hb_ hon hoff
      refine ⟨_, rfl, fun K hK => ?_⟩
      have ha := Aside0.mk ha0
      clear ha0
      have e91 : a.tmps[91]? = some (.pointer (some ⟨h8, 3, none⟩)) := by rw [ha.out]; exact putSel_on (e := (0, 91, .pointer (some ⟨h8, 3, none⟩))) 0 rfl rfl (hon 0 (by kernel_rfl)) (hz _ rfl)
      have hc_ : w0.drew.cell? ⟨h8, 3, none⟩ = some (.int .i64 5) := c8
      refine value_ (w1 := w0.drew) (v := .int .i64 5) (by rfl) rfl ?_ ?_
      · go_simp
        try rfl
      exact hK.out _ _ ⟨(by rw [ha.out]; exact putSel_upk 1 hb_ rfl rfl rfl), rfl⟩
    refine steps_cons ?_ ?_
    · rintro b a w ⟨ha0, rfl⟩ hb_ hon hoff
      refine ⟨_, rfl, fun K hK => ?_⟩
      have ha := Aside0.mk ha0
      clear ha0
      have e92 : a.tmps[92]? = some (.int .i64 5) := by rw [ha.out]; exact putSel_on (e := (1, 92, .int .i64 5)) 1 rfl rfl (hon 1 (by kernel_rfl)) (hz _ rfl)
      refine value_ (w1 := w0.drew) (v := .bool true) (by rfl) rfl ?_ ?_
      · go_simp
        try rfl
      exact hK.out _ _ ⟨(by rw [ha.out]; exact putSel_upk 2 hb_ rfl rfl rfl), rfl⟩
    refine steps_cons ?_ ?_
    · rintro b a w ⟨ha0, rfl⟩ hb_ hon hoff
      refine ⟨_, rfl, fun K hK => ?_⟩
      have ha := Aside0.mk ha0
      clear ha0
      have e93 : a.tmps[93]? = some (.bool true) := by rw [ha.out]; exact putSel_on (e := (2, 93, .bool true)) 2 rfl rfl (hon 2 (by kernel_rfl)) (hz _ rfl)
      refine value_ (w1 := w0.drew) (v := .bool true) (by rfl) rfl ?_ ?_
      · go_simp
        try rfl
      exact hK.out _ _ ⟨(by rw [ha.out]; exact putSel_upk 3 hb_ rfl rfl rfl), rfl⟩
    refine steps_cons ?_ ?_
    · rintro b a w ⟨ha0, rfl⟩ hb_ hon hoff
      refine ⟨_, rfl, fun K hK => ?_⟩
      have ha := Aside0.mk ha0
      clear ha0
      have e11 : a.tmps[11]? = some (.pointer (some ⟨h11, 0, none⟩)) := by rw [ha.out]; exact (putSel_off rfl).trans s11
      have k94 : a.tmps[94]? = some (.bool true) := by rw [ha.out]; exact putSel_on (e := (3, 94, .bool true)) 3 rfl rfl (hon 3 (by kernel_rfl)) (hz _ rfl)
      refine value_ (w1 := w0.drew) (v := .pointer (some ⟨h11, 3, none⟩)) (wanted_on rfl rfl rfl k94) rfl ?_ ?_
      · go_simp
        try rfl
      exact hK.out _ _ ⟨(by rw [ha.out]; exact putSel_upk 4 hb_ rfl rfl rfl), rfl⟩
    refine steps_cons ?_ ?_
    · rintro b a w ⟨ha0, rfl⟩ hb_ hon hoff
      refine ⟨_, rfl, fun K hK => ?_⟩
      have ha := Aside0.mk ha0
      clear ha0
      have e95 : a.tmps[95]? = some (.pointer (some ⟨h11, 3, none⟩)) := by rw [ha.out]; exact putSel_on (e := (4, 95, .pointer (some ⟨h11, 3, none⟩))) 4 rfl rfl (hon 4 (by kernel_rfl)) (hz _ rfl)
      have hc_ : w0.drew.cell? ⟨h11, 3, none⟩ = some (.int .i64 6) := c11
      have k94 : a.tmps[94]? = some (.bool true) := by rw [ha.out]; exact putSel_on (e := (3, 94, .bool true)) 3 rfl rfl (hon 3 (by kernel_rfl)) (hz _ rfl)
      refine value_ (w1 := w0.drew) (v := .int .i64 6) (wanted_on rfl rfl rfl k94) rfl ?_ ?_
      · go_simp
        try rfl
      exact hK.out _ _ ⟨(by rw [ha.out]; exact putSel_upk 5 hb_ rfl rfl rfl), rfl⟩
    refine steps_cons ?_ ?_
    · rintro b a w ⟨ha0, rfl⟩ hb_ hon hoff
      refine ⟨_, rfl, fun K hK => ?_⟩
      have ha := Aside0.mk ha0
      clear ha0
      have e96 : a.tmps[96]? = some (.int .i64 6) := by rw [ha.out]; exact putSel_on (e := (5, 96, .int .i64 6)) 5 rfl rfl (hon 5 (by kernel_rfl)) (hz _ rfl)
      have k94 : a.tmps[94]? = some (.bool true) := by rw [ha.out]; exact putSel_on (e := (3, 94, .bool true)) 3 rfl rfl (hon 3 (by kernel_rfl)) (hz _ rfl)
      refine value_ (w1 := w0.drew) (v := .bool true) (wanted_on rfl rfl rfl k94) rfl ?_ ?_
      · go_simp
        try rfl
      exact hK.out _ _ ⟨(by rw [ha.out]; exact putSel_upk 6 hb_ rfl rfl rfl), rfl⟩
    refine steps_cons ?_ ?_
    · rintro b a w ⟨ha0, rfl⟩ hb_ hon hoff
      refine ⟨_, rfl, fun K hK => ?_⟩
      have ha := Aside0.mk ha0
      clear ha0
      have e94 : a.tmps[94]? = some (.bool true) := by rw [ha.out]; exact putSel_on (e := (3, 94, .bool true)) 3 rfl rfl (hon 3 (by kernel_rfl)) (hz _ rfl)
      have e97 : a.tmps[97]? = some (.bool true) := by rw [ha.out]; exact putSel_on (e := (6, 97, .bool true)) 6 rfl rfl (hon 6 (by kernel_rfl)) (hz _ rfl)
      refine value_ (w1 := w0.drew) (v := .bool true) (by rfl) rfl ?_ ?_
      · go_simp
        try rfl
      exact hK.out _ _ ⟨(by rw [ha.out]; exact putSel_upk 7 hb_ rfl rfl rfl), rfl⟩
    refine steps_cons ?_ ?_
    · rintro b a w ⟨ha0, rfl⟩ hb_ hon hoff
      refine ⟨_, rfl, fun K hK => ?_⟩
      have ha := Aside0.mk ha0
      clear ha0
      have e98 : a.tmps[98]? = some (.bool true) := by rw [ha.out]; exact putSel_on (e := (7, 98, .bool true)) 7 rfl rfl (hon 7 (by kernel_rfl)) (hz _ rfl)
      refine value_ (w1 := w0.drew) (v := .bool true) (by rfl) rfl ?_ ?_
      · go_simp
        try rfl
      exact hK.out _ _ ⟨(by rw [ha.out]; exact putSel_upk 8 hb_ rfl rfl rfl), rfl⟩
    refine steps_cons ?_ ?_
    · rintro b a w ⟨ha0, rfl⟩ hb_ hon hoff
      refine ⟨_, rfl, fun K hK => ?_⟩
      have ha := Aside0.mk ha0
      clear ha0
      have e14 : a.tmps[14]? = some (.pointer (some ⟨h14, 0, none⟩)) := by rw [ha.out]; exact (putSel_off rfl).trans s14
      have k99 : a.tmps[99]? = some (.bool true) := by rw [ha.out]; exact putSel_on (e := (8, 99, .bool true)) 8 rfl rfl (hon 8 (by kernel_rfl)) (hz _ rfl)
      refine value_ (w1 := w0.drew) (v := .pointer (some ⟨h14, 3, none⟩)) (wanted_on rfl rfl rfl k99) rfl ?_ ?_
      · go_simp
        try rfl
      exact hK.out _ _ ⟨(by rw [ha.out]; exact putSel_upk 9 hb_ rfl rfl rfl), rfl⟩
    refine steps_cons ?_ ?_
    · rintro b a w ⟨ha0, rfl⟩ hb_ hon hoff
      refine ⟨_, rfl, fun K hK => ?_⟩
      have ha := Aside0.mk ha0
      clear ha0
      have e100 : a.tmps[100]? = some (.pointer (some ⟨h14, 3, none⟩)) := by rw [ha.out]; exact putSel_on (e := (9, 100, .pointer (some ⟨h14, 3, none⟩))) 9 rfl rfl (hon 9 (by kernel_rfl)) (hz _ rfl)
      have hc_ : w0.drew.cell? ⟨h14, 3, none⟩ = some (.int .i64 1) := c14
      have k99 : a.tmps[99]? = some (.bool true) := by rw [ha.out]; exact putSel_on (e := (8, 99, .bool true)) 8 rfl rfl (hon 8 (by kernel_rfl)) (hz _ rfl)
      refine value_ (w1 := w0.drew) (v := .int .i64 1) (wanted_on rfl rfl rfl k99) rfl ?_ ?_
      · go_simp
        try rfl
      exact hK.out _ _ ⟨(by rw [ha.out]; exact putSel_upk 10 hb_ rfl rfl rfl), rfl⟩
    refine steps_cons ?_ ?_
    · rintro b a w ⟨ha0, rfl⟩ hb_ hon hoff
      refine ⟨_, rfl, fun K hK => ?_⟩
      have ha := Aside0.mk ha0
      clear ha0
      have e101 : a.tmps[101]? = some (.int .i64 1) := by rw [ha.out]; exact putSel_on (e := (10, 101, .int .i64 1)) 10 rfl rfl (hon 10 (by kernel_rfl)) (hz _ rfl)
      have k99 : a.tmps[99]? = some (.bool true) := by rw [ha.out]; exact putSel_on (e := (8, 99, .bool true)) 8 rfl rfl (hon 8 (by kernel_rfl)) (hz _ rfl)
      refine value_ (w1 := w0.drew) (v := .bool true) (wanted_on rfl rfl rfl k99) rfl ?_ ?_
      · go_simp
        try rfl
      exact hK.out _ _ ⟨(by rw [ha.out]; exact putSel_upk 11 hb_ rfl rfl rfl), rfl⟩
    refine steps_cons ?_ ?_
    · rintro b a w ⟨ha0, rfl⟩ hb_ hon hoff
      refine ⟨_, rfl, fun K hK => ?_⟩
      have ha := Aside0.mk ha0
      clear ha0
      have e99 : a.tmps[99]? = some (.bool true) := by rw [ha.out]; exact putSel_on (e := (8, 99, .bool true)) 8 rfl rfl (hon 8 (by kernel_rfl)) (hz _ rfl)
      have e102 : a.tmps[102]? = some (.bool true) := by rw [ha.out]; exact putSel_on (e := (11, 102, .bool true)) 11 rfl rfl (hon 11 (by kernel_rfl)) (hz _ rfl)
      refine value_ (w1 := w0.drew) (v := .bool true) (by rfl) rfl ?_ ?_
      · go_simp
        try rfl
      exact hK.out _ _ ⟨(by rw [ha.out]; exact putSel_upk 12 hb_ rfl rfl rfl), rfl⟩
    refine steps_cons ?_ ?_
    · rintro b a w ⟨ha0, rfl⟩ hb_ hon hoff
      refine ⟨_, rfl, fun K hK => ?_⟩
      have ha := Aside0.mk ha0
      clear ha0
      have e103 : a.tmps[103]? = some (.bool true) := by rw [ha.out]; exact putSel_on (e := (12, 103, .bool true)) 12 rfl rfl (hon 12 (by kernel_rfl)) (hz _ rfl)
      refine value_ (w1 := w0.drew) (v := .bool true) (by rfl) rfl ?_ ?_
      · go_simp
        try rfl
      exact hK.out _ _ ⟨(by rw [ha.out]; exact putSel_upk 13 hb_ rfl rfl rfl), rfl⟩
    refine steps_cons ?_ ?_
    · rintro b a w ⟨ha0, rfl⟩ hb_ hon hoff
      refine ⟨_, rfl, fun K hK => ?_⟩
      have ha := Aside0.mk ha0
      clear ha0
      have e18 : a.tmps[18]? = some (.pointer (some ⟨h18, 0, none⟩)) := by rw [ha.out]; exact (putSel_off rfl).trans s18
      have k104 : a.tmps[104]? = some (.bool true) := by rw [ha.out]; exact putSel_on (e := (13, 104, .bool true)) 13 rfl rfl (hon 13 (by kernel_rfl)) (hz _ rfl)
      refine value_ (w1 := w0.drew) (v := .pointer (some ⟨h18, 3, none⟩)) (wanted_on rfl rfl rfl k104) rfl ?_ ?_
      · go_simp
        try rfl
      exact hK.out _ _ ⟨(by rw [ha.out]; exact putSel_upk 14 hb_ rfl rfl rfl), rfl⟩
    refine steps_cons ?_ ?_
    · rintro b a w ⟨ha0, rfl⟩ hb_ hon hoff
      refine ⟨_, rfl, fun K hK => ?_⟩
      have ha := Aside0.mk ha0
      clear ha0
      have e105 : a.tmps[105]? = some (.pointer (some ⟨h18, 3, none⟩)) := by rw [ha.out]; exact putSel_on (e := (14, 105, .pointer (some ⟨h18, 3, none⟩))) 14 rfl rfl (hon 14 (by kernel_rfl)) (hz _ rfl)
      have hc_ : w0.drew.cell? ⟨h18, 3, none⟩ = some (.int .i64 4) := c18
      have k104 : a.tmps[104]? = some (.bool true) := by rw [ha.out]; exact putSel_on (e := (13, 104, .bool true)) 13 rfl rfl (hon 13 (by kernel_rfl)) (hz _ rfl)
      refine value_ (w1 := w0.drew) (v := .int .i64 4) (wanted_on rfl rfl rfl k104) rfl ?_ ?_
      · go_simp
        try rfl
      exact hK.out _ _ ⟨(by rw [ha.out]; exact putSel_upk 15 hb_ rfl rfl rfl), rfl⟩
    refine steps_cons ?_ ?_
    · rintro b a w ⟨ha0, rfl⟩ hb_ hon hoff
      refine ⟨_, rfl, fun K hK => ?_⟩
      have ha := Aside0.mk ha0
      clear ha0
      have e106 : a.tmps[106]? = some (.int .i64 4) := by rw [ha.out]; exact putSel_on (e := (15, 106, .int .i64 4)) 15 rfl rfl (hon 15 (by kernel_rfl)) (hz _ rfl)
      have k104 : a.tmps[104]? = some (.bool true) := by rw [ha.out]; exact putSel_on (e := (13, 104, .bool true)) 13 rfl rfl (hon 13 (by kernel_rfl)) (hz _ rfl)
      refine value_ (w1 := w0.drew) (v := .bool true) (wanted_on rfl rfl rfl k104) rfl ?_ ?_
      · go_simp
        try rfl
      exact hK.out _ _ ⟨(by rw [ha.out]; exact putSel_upk 16 hb_ rfl rfl rfl), rfl⟩
    refine steps_cons ?_ ?_
    · rintro b a w ⟨ha0, rfl⟩ hb_ hon hoff
      refine ⟨_, rfl, fun K hK => ?_⟩
      have ha := Aside0.mk ha0
      clear ha0
      have e104 : a.tmps[104]? = some (.bool true) := by rw [ha.out]; exact putSel_on (e := (13, 104, .bool true)) 13 rfl rfl (hon 13 (by kernel_rfl)) (hz _ rfl)
      have e107 : a.tmps[107]? = some (.bool true) := by rw [ha.out]; exact putSel_on (e := (16, 107, .bool true)) 16 rfl rfl (hon 16 (by kernel_rfl)) (hz _ rfl)
      refine value_ (w1 := w0.drew) (v := .bool true) (by rfl) rfl ?_ ?_
      · go_simp
        try rfl
      exact hK.out _ _ ⟨(by rw [ha.out]; exact putSel_upk 17 hb_ rfl rfl rfl), rfl⟩
    refine steps_cons ?_ ?_
    · rintro b a w ⟨ha0, rfl⟩ hb_ hon hoff
      refine ⟨_, rfl, fun K hK => ?_⟩
      have ha := Aside0.mk ha0
      clear ha0
      have e108 : a.tmps[108]? = some (.bool true) := by rw [ha.out]; exact putSel_on (e := (17, 108, .bool true)) 17 rfl rfl (hon 17 (by kernel_rfl)) (hz _ rfl)
      refine value_ (w1 := w0.drew) (v := .bool true) (by rfl) rfl ?_ ?_
      · go_simp
        try rfl
      exact hK.out _ _ ⟨(by rw [ha.out]; exact putSel_upk 18 hb_ rfl rfl rfl), rfl⟩
    refine steps_cons ?_ ?_
    · rintro b a w ⟨ha0, rfl⟩ hb_ hon hoff
      refine ⟨_, rfl, fun K hK => ?_⟩
      have ha := Aside0.mk ha0
      clear ha0
      have e21 : a.tmps[21]? = some (.pointer (some ⟨h21, 0, none⟩)) := by rw [ha.out]; exact (putSel_off rfl).trans s21
      have k109 : a.tmps[109]? = some (.bool true) := by rw [ha.out]; exact putSel_on (e := (18, 109, .bool true)) 18 rfl rfl (hon 18 (by kernel_rfl)) (hz _ rfl)
      refine value_ (w1 := w0.drew) (v := .pointer (some ⟨h21, 3, none⟩)) (wanted_on rfl rfl rfl k109) rfl ?_ ?_
      · go_simp
        try rfl
      exact hK.out _ _ ⟨(by rw [ha.out]; exact putSel_upk 19 hb_ rfl rfl rfl), rfl⟩
    refine steps_cons ?_ ?_
    · rintro b a w ⟨ha0, rfl⟩ hb_ hon hoff
      refine ⟨_, rfl, fun K hK => ?_⟩
      have ha := Aside0.mk ha0
      clear ha0
      have e110 : a.tmps[110]? = some (.pointer (some ⟨h21, 3, none⟩)) := by rw [ha.out]; exact putSel_on (e := (19, 110, .pointer (some ⟨h21, 3, none⟩))) 19 rfl rfl (hon 19 (by kernel_rfl)) (hz _ rfl)
      have hc_ : w0.drew.cell? ⟨h21, 3, none⟩ = some (.int .i64 0) := c21
      have k109 : a.tmps[109]? = some (.bool true) := by rw [ha.out]; exact putSel_on (e := (18, 109, .bool true)) 18 rfl rfl (hon 18 (by kernel_rfl)) (hz _ rfl)
      refine value_ (w1 := w0.drew) (v := .int .i64 0) (wanted_on rfl rfl rfl k109) rfl ?_ ?_
      · go_simp
        try rfl
      exact hK.out _ _ ⟨(by rw [ha.out]; exact putSel_upk 20 hb_ rfl rfl rfl), rfl⟩
    refine steps_cons ?_ ?_
    · rintro b a w ⟨ha0, rfl⟩ hb_ hon hoff
      refine ⟨_, rfl, fun K hK => ?_⟩
      have ha := Aside0.mk ha0
      clear ha0
      have e111 : a.tmps[111]? = some (.int .i64 0) := by rw [ha.out]; exact putSel_on (e := (20, 111, .int .i64 0)) 20 rfl rfl (hon 20 (by kernel_rfl)) (hz _ rfl)
      have k109 : a.tmps[109]? = some (.bool true) := by rw [ha.out]; exact putSel_on (e := (18, 109, .bool true)) 18 rfl rfl (hon 18 (by kernel_rfl)) (hz _ rfl)
      refine value_ (w1 := w0.drew) (v := .bool true) (wanted_on rfl rfl rfl k109) rfl ?_ ?_
      · go_simp
        try rfl
      exact hK.out _ _ ⟨(by rw [ha.out]; exact putSel_upk 21 hb_ rfl rfl rfl), rfl⟩
    refine steps_cons ?_ ?_
    · rintro b a w ⟨ha0, rfl⟩ hb_ hon hoff
      refine ⟨_, rfl, fun K hK => ?_⟩
      have ha := Aside0.mk ha0
      clear ha0
      have e109 : a.tmps[109]? = some (.bool true) := by rw [ha.out]; exact putSel_on (e := (18, 109, .bool true)) 18 rfl rfl (hon 18 (by kernel_rfl)) (hz _ rfl)
      have e112 : a.tmps[112]? = some (.bool true) := by rw [ha.out]; exact putSel_on (e := (21, 112, .bool true)) 21 rfl rfl (hon 21 (by kernel_rfl)) (hz _ rfl)
      refine value_ (w1 := w0.drew) (v := .bool true) (by rfl) rfl ?_ ?_
      · go_simp
        try rfl
      exact hK.out _ _ ⟨(by rw [ha.out]; exact putSel_upk 22 hb_ rfl rfl rfl), rfl⟩
    refine steps_cons ?_ ?_
    · rintro b a w ⟨ha0, rfl⟩ hb_ hon hoff
      refine ⟨_, rfl, fun K hK => ?_⟩
      have ha := Aside0.mk ha0
      clear ha0
      have e113 : a.tmps[113]? = some (.bool true) := by rw [ha.out]; exact putSel_on (e := (22, 113, .bool true)) 22 rfl rfl (hon 22 (by kernel_rfl)) (hz _ rfl)
      refine value_ (w1 := w0.drew) (v := .bool true) (by rfl) rfl ?_ ?_
      · go_simp
        try rfl
      exact hK.out _ _ ⟨(by rw [ha.out]; exact putSel_upk 23 hb_ rfl rfl rfl), rfl⟩
    refine steps_cons ?_ ?_
    · rintro b a w ⟨ha0, rfl⟩ hb_ hon hoff
      refine ⟨_, rfl, fun K hK => ?_⟩
      have ha := Aside0.mk ha0
      clear ha0
      have e19 : a.tmps[19]? = some (.pointer (some ⟨gx, 0, none⟩)) := by rw [ha.out]; exact (putSel_off rfl).trans s19
      have k114 : a.tmps[114]? = some (.bool true) := by rw [ha.out]; exact putSel_on (e := (23, 114, .bool true)) 23 rfl rfl (hon 23 (by kernel_rfl)) (hz _ rfl)
      refine value_ (w1 := w0.drew) (v := .pointer (some ⟨gx, 1, none⟩)) (wanted_on rfl rfl rfl k114) rfl ?_ ?_
      · go_simp
        try rfl
      exact hK.out _ _ ⟨(by rw [ha.out]; exact putSel_upk 24 hb_ rfl rfl rfl), rfl⟩
    refine steps_cons ?_ ?_
    · rintro b a w ⟨ha0, rfl⟩ hb_ hon hoff
      refine ⟨_, rfl, fun K hK => ?_⟩
      have ha := Aside0.mk ha0
      clear ha0
      have e115 : a.tmps[115]? = some (.pointer (some ⟨gx, 1, none⟩)) := by rw [ha.out]; exact putSel_on (e := (24, 115, .pointer (some ⟨gx, 1, none⟩))) 24 rfl rfl (hon 24 (by kernel_rfl)) (hz _ rfl)
      have hc_ : w0.drew.cell? ⟨gx, 1, none⟩ = some (.slice (some ⟨gs, 0, none⟩) nS cS) := cx
      have k114 : a.tmps[114]? = some (.bool true) := by rw [ha.out]; exact putSel_on (e := (23, 114, .bool true)) 23 rfl rfl (hon 23 (by kernel_rfl)) (hz _ rfl)
      refine value_ (w1 := w0.drew) (v := .slice (some ⟨gs, 0, none⟩) nS cS) (wanted_on rfl rfl rfl k114) rfl ?_ ?_
      · go_simp
        try rfl
      exact hK.out _ _ ⟨(by rw [ha.out]; exact putSel_upk 25 hb_ rfl rfl rfl), rfl⟩
    refine steps_cons ?_ ?_
    · rintro b a w ⟨ha0, rfl⟩ hb_ hon hoff
      refine ⟨_, rfl, fun K hK => ?_⟩
      have ha := Aside0.mk ha0
      clear ha0
      have e116 : a.tmps[116]? = some (.slice (some ⟨gs, 0, none⟩) nS cS) := by rw [ha.out]; exact putSel_on (e := (25, 116, .slice (some ⟨gs, 0, none⟩) nS cS)) 25 rfl rfl (hon 25 (by kernel_rfl)) (hz _ rfl)
      have k114 : a.tmps[114]? = some (.bool true) := by rw [ha.out]; exact putSel_on (e := (23, 114, .bool true)) 23 rfl rfl (hon 23 (by kernel_rfl)) (hz _ rfl)
      refine value_ (w1 := w0.drew) (v := .pointer (some ⟨gs, 0, none⟩)) (wanted_on rfl rfl rfl k114) rfl ?_ ?_
      · go_simp
        try rfl
      exact hK.out _ _ ⟨(by rw [ha.out]; exact putSel_upk 26 hb_ rfl rfl rfl), rfl⟩
    refine steps_cons ?_ ?_
    · rintro b a w ⟨ha0, rfl⟩ hb_ hon hoff
      refine ⟨_, rfl, fun K hK => ?_⟩
      have ha := Aside0.mk ha0
      clear ha0
      have e117 : a.tmps[117]? = some (.pointer (some ⟨gs, 0, none⟩)) := by rw [ha.out]; exact putSel_on (e := (26, 117, .pointer (some ⟨gs, 0, none⟩))) 26 rfl rfl (hon 26 (by kernel_rfl)) (hz _ rfl)
      have hc_ : w0.drew.cell? ⟨gs, 0, none⟩ = some (.int .i64 (rd p 2)) := cs
      have k114 : a.tmps[114]? = some (.bool true) := by rw [ha.out]; exact putSel_on (e := (23, 114, .bool true)) 23 rfl rfl (hon 23 (by kernel_rfl)) (hz _ rfl)
      refine value_ (w1 := w0.drew) (v := .int .i64 (rd p 2)) (wanted_on rfl rfl rfl k114) rfl ?_ ?_
      · go_simp
        try rfl
      exact hK.out _ _ ⟨(by rw [ha.out]; exact putSel_upk 27 hb_ rfl rfl rfl), rfl⟩
    refine steps_cons ?_ ?_
    · rintro b a w ⟨ha0, rfl⟩ hb_ hon hoff
      refine ⟨_, rfl, fun K hK => ?_⟩
      have ha := Aside0.mk ha0
      clear ha0
      have e3 : a.tmps[3]? = some (.slice (some ⟨gp, 0, none⟩) p.length cp) := by rw [ha.out]; exact (putSel_off rfl).trans hB.sp
      have k114 : a.tmps[114]? = some (.bool true) := by rw [ha.out]; exact putSel_on (e := (23, 114, .bool true)) 23 rfl rfl (hon 23 (by kernel_rfl)) (hz _ rfl)
      refine value_ (w1 := w0.drew) (v := .slice (some ⟨gp, 0, none⟩) p.length cp) (wanted_on rfl rfl rfl k114) rfl ?_ ?_
      · go_simp
        try rfl
      exact hK.out _ _ ⟨(by rw [ha.out]; exact putSel_upk 28 hb_ rfl rfl rfl), rfl⟩
    refine steps_cons ?_ ?_
    · rintro b a w ⟨ha0, rfl⟩ hb_ hon hoff
      refine ⟨_, rfl, fun K hK => ?_⟩
      have ha := Aside0.mk ha0
      clear ha0
      have e119 : a.tmps[119]? = some (.slice (some ⟨gp, 0, none⟩) p.length cp) := by rw [ha.out]; exact putSel_on (e := (28, 119, .slice (some ⟨gp, 0, none⟩) p.length cp)) 28 rfl rfl (hon 28 (by kernel_rfl)) (hz _ rfl)
      have k114 : a.tmps[114]? = some (.bool true) := by rw [ha.out]; exact putSel_on (e := (23, 114, .bool true)) 23 rfl rfl (hon 23 (by kernel_rfl)) (hz _ rfl)
      refine value_ (w1 := w0.drew) (v := .pointer (some ⟨gp, 2, none⟩)) (wanted_on rfl rfl rfl k114) rfl ?_ ?_
      · go_simp
        try rfl
      exact hK.out _ _ ⟨(by rw [ha.out]; exact putSel_upk 29 hb_ rfl rfl rfl), rfl⟩
    refine steps_cons ?_ ?_
    · rintro b a w ⟨ha0, rfl⟩ hb_ hon hoff
      refine ⟨_, rfl, fun K hK => ?_⟩
      have ha := Aside0.mk ha0
      clear ha0
      have e120 : a.tmps[120]? = some (.pointer (some ⟨gp, 2, none⟩)) := by rw [ha.out]; exact putSel_on (e := (29, 120, .pointer (some ⟨gp, 2, none⟩))) 29 rfl rfl (hon 29 (by kernel_rfl)) (hz _ rfl)
      have hc_ : w0.drew.cell? ⟨gp, 2, none⟩ = some (.int .i64 (rd p 2)) := hB.at_ (below_drew (Below.refl _ _)) 2 hp
      have k114 : a.tmps[114]? = some (.bool true) := by rw [ha.out]; exact putSel_on (e := (23, 114, .bool true)) 23 rfl rfl (hon 23 (by kernel_rfl)) (hz _ rfl)
      refine value_ (w1 := w0.drew) (v := .int .i64 (rd p 2)) (wanted_on rfl rfl rfl k114) rfl ?_ ?_
      · go_simp
        try rfl
      exact hK.out _ _ ⟨(by rw [ha.out]; exact putSel_upk 30 hb_ rfl rfl rfl), rfl⟩
    refine steps_cons ?_ ?_
    · rintro b a w ⟨ha0, rfl⟩ hb_ hon hoff
      refine ⟨_, rfl, fun K hK => ?_⟩
      have ha := Aside0.mk ha0
      clear ha0
      have e118 : a.tmps[118]? = some (.int .i64 (rd p 2)) := by rw [ha.out]; exact putSel_on (e := (27, 118, .int .i64 (rd p 2))) 27 rfl rfl (hon 27 (by kernel_rfl)) (hz _ rfl)
      have e121 : a.tmps[121]? = some (.int .i64 (rd p 2)) := by rw [ha.out]; exact putSel_on (e := (30, 121, .int .i64 (rd p 2))) 30 rfl rfl (hon 30 (by kernel_rfl)) (hz _ rfl)
      have k114 : a.tmps[114]? = some (.bool true) := by rw [ha.out]; exact putSel_on (e := (23, 114, .bool true)) 23 rfl rfl (hon 23 (by kernel_rfl)) (hz _ rfl)
      refine value_ (w1 := w0.drew) (v := .bool true) (wanted_on rfl rfl rfl k114) rfl ?_ ?_
      · go_simp
        try rfl
      exact hK.out _ _ ⟨(by rw [ha.out]; exact putSel_upk 31 hb_ rfl rfl rfl), rfl⟩
    refine steps_cons ?_ ?_
    · rintro b a w ⟨ha0, rfl⟩ hb_ hon hoff
      refine ⟨_, rfl, fun K hK => ?_⟩
      have ha := Aside0.mk ha0
      clear ha0
      have e114 : a.tmps[114]? = some (.bool true) := by rw [ha.out]; exact putSel_on (e := (23, 114, .bool true)) 23 rfl rfl (hon 23 (by kernel_rfl)) (hz _ rfl)
      have e122 : a.tmps[122]? = some (.bool true) := by rw [ha.out]; exact putSel_on (e := (31, 122, .bool true)) 31 rfl rfl (hon 31 (by kernel_rfl)) (hz _ rfl)
      refine value_ (w1 := w0.drew) (v := .bool true) (by rfl) rfl ?_ ?_
      · go_simp
        try rfl
      exact hK.out _ _ ⟨(by rw [ha.out]; exact putSel_upk 32 hb_ rfl rfl rfl), rfl⟩
    refine steps_cons ?_ ?_
    · rintro b a w ⟨ha0, rfl⟩ hb_ hon hoff
      refine ⟨_, rfl, fun K hK => ?_⟩
      have ha := Aside0.mk ha0
      clear ha0
      have e123 : a.tmps[123]? = some (.bool true) := by rw [ha.out]; exact putSel_on (e := (32, 123, .bool true)) 32 rfl rfl (hon 32 (by kernel_rfl)) (hz _ rfl)
      refine value_ (w1 := w0.drew) (v := .bool true) (by rfl) rfl ?_ ?_
      · go_simp
        try rfl
      exact hK.out _ _ ⟨(by rw [ha.out]; exact putSel_upk 33 hb_ rfl rfl rfl), rfl⟩
    exact steps_nil
  · rintro b a w hall ⟨ha, rfl⟩
    have hs := putSel_size b [(0, 91, .pointer (some ⟨h8, 3, none⟩)), (1, 92, .int .i64 5), (2, 93, .bool true), (3, 94, .bool true), (4, 95, .pointer (some ⟨h11, 3, none⟩)), (5, 96, .int .i64 6), (6, 97, .bool true), (7, 98, .bool true), (8, 99, .bool true), (9, 100, .pointer (some ⟨h14, 3, none⟩)), (10, 101, .int .i64 1), (11, 102, .bool true), (12, 103, .bool true), (13, 104, .bool true), (14, 105, .pointer (some ⟨h18, 3, none⟩)), (15, 106, .int .i64 4), (16, 107, .bool true), (17, 108, .bool true), (18, 109, .bool true), (19, 110, .pointer (some ⟨h21, 3, none⟩)), (20, 111, .int .i64 0), (21, 112, .bool true), (22, 113, .bool true), (23, 114, .bool true), (24, 115, .pointer (some ⟨gx, 1, none⟩)), (25, 116, .slice (some ⟨gs, 0, none⟩) nS cS), (26, 117, .pointer (some ⟨gs, 0, none⟩)), (27, 118, .int .i64 (rd p 2)), (28, 119, .slice (some ⟨gp, 0, none⟩) p.length cp), (29, 120, .pointer (some ⟨gp, 2, none⟩)), (30, 121, .int .i64 (rd p 2)), (31, 122, .bool true), (32, 123, .bool true), (33, 2, .bool true)] a0
    exact hQ a _ (by rw [ha]; exact hs.2.trans hB.df) (by rw [ha]; exact putSel_on (e := (33, 2, .bool true)) 33 rfl rfl (hall 33 (by kernel_rfl)) (hz _ rfl)) (below_drew (Below.refl _ _))
end Go.Proofs.Yteehopjgmgelnaa.PFnTraps
