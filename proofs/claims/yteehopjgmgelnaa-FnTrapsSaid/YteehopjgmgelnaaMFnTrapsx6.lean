/- The walks of what FnTraps reaches: lines of the kit's print for this claim, turned by hand where they did not build. -/
/- The walk of FnTraps: its statements one behind the other. Lines of the kit's print for this claim (the function that it computes), and own work. -/
import Derived.Test.YteehopjgmgelnaaMFnTrapsR6
import Derived.Test.YteehopjgmgelnaaMFnTrapsR7
import Derived.Test.YteehopjgmgelnaaMFnTrapsR8
import Derived.Test.YteehopjgmgelnaaMFnTrapsR9
import Derived.Test.YteehopjgmgelnaaMFnTrapsR10
import Derived.Test.YteehopjgmgelnaaMFnTrapsR11
import Derived.Test.YteehopjgmgelnaaMFnTrapsR12
namespace Go.Proofs.Yteehopjgmgelnaa.PFnTraps
open Go.RowKit Go.Proofs.YteehopjgmgelnaaW.PrintWords Go.Proofs.YteehopjgmgelnaaW.PrintLast Go.Proofs.YteehopjgmgelnaaW.PrintMore
set_option linter.unusedVariables false
set_option linter.unusedSimpArgs false

/-! ### laws_FnTraps: function 9 -/
def laws_FnTraps.f (k : Nat) (l0 : List Int) : Option (Bool) := (laws_big.f l0).bind fun t215 => (if t215 = true then (some true) else ((spec_DrawPlaces.f k l0).bind fun t216 => ((impl_ArenaNew.f).bind fun t219 => ((impl_StepCpu.f k 0 ([] : List Int) (([(⟨4, 0⟩ : S64)] : List (S64))) t219 0 4 0).bind fun bt227 => (if 0 < (t216.length : Int) then ((impl_StepCpu.f k (Int.tmod (rd t216 0) 60) ([] : List Int) (([] : List (S64))) t219 0 4 0).bind fun bt245 => (if 1 < (t216.length : Int) then ((impl_StepCpu.f k 0 ([] : List Int) (([(⟨wrap64 (18 + (Int.tmod (rd t216 1) 200)), 0⟩ : S64)] : List (S64))) t219 0 4 0).bind fun bt263 => (if 8 ≤ 35184372088832 then ((impl_StepCpu.f k 0 (List.replicate 8 0) (([(⟨1, 1⟩ : S64)] : List (S64))) t219 0 4 0).bind fun bt284 => (if 2 < (t216.length : Int) then ((impl_StepCpu.f k 0 ([] : List Int) (([(⟨17, 0⟩ : S64)] : List (S64))) t219 0 4 (rd t216 2)).bind fun bt302 => (if bt227.2.2.2.2.2.2 = 5 then (if bt245.2.2.2.2.2.2 = 6 then (if bt263.2.2.2.2.2.2 = 1 then (if bt284.2.2.2.2.2.2 = 4 then (if bt302.2.2.2.2.2.2 = 0 then (if 0 < (bt302.2.1.length : Int) then (some ((rd bt302.2.1 0) == (rd t216 2))) else (none)) else (some false)) else (some false)) else (some false)) else (some false)) else (some false))) else (none))) else (none))) else (none))) else (none))))))
theorem laws_FnTraps.mono : ∀ a0 k, LeO (laws_FnTraps.f k a0) (laws_FnTraps.f (k + 1) a0) := by
  intro a0 k
  unfold laws_FnTraps.f
  repeat' first
      | (with_reducible exact impl_StepCpu.mono _ _ _ _ _ _ _ _)
      | (with_reducible exact spec_DrawPlaces.mono _ _)
      | (with_reducible exact LeO.refl _)
      | (with_reducible exact LeO.none _)
      | (with_reducible refine LeO.ite ?_ ?_)
      | (with_reducible refine LeO.bind ?_ (fun _ => ?_))
      | exact impl_StepCpu.mono _ _ _ _ _ _ _ _
      | exact spec_DrawPlaces.mono _ _
      | exact LeO.none _
      | refine LeO.ite ?_ ?_
      | refine LeO.bind ?_ (fun _ => ?_)

/-- What is left of the code behind n statements. -/
def tl : Code → Nat → Code
  | c, 0 => c
  | .seq _ b, n + 1 => tl b n
  | c, _ + 1 => c
/-- A variable that holds an effect of this trap. -/
def Ef (a : Act) (w : World) (s : Nat) (t : Int) : Prop := ∃ g x y z, a.tmps[s]? = some (.pointer (some ⟨g, 0, none⟩)) ∧ w.heap[g]? = some (.cells #[.int .i64 x, .int .i64 y, .int .i64 z, .int .i64 t] 60 (0, 0))
theorem Ef.on {a a' : Act} {w w' : World} {s : Nat} {t : Int} (h : Ef a w s t) (hb : Below w.heap.size w w') (hs : a'.tmps[s]? = a.tmps[s]?) : Ef a' w' s t := by
  obtain ⟨g, x, y, z, h1, h2⟩ := h
  exact ⟨g, x, y, z, hs.trans h1, blk_below h2 hb⟩
theorem Ef.cell {a : Act} {w : World} {s : Nat} {t : Int} (h : Ef a w s t) : ∃ g, a.tmps[s]? = some (.pointer (some ⟨g, 0, none⟩)) ∧ w.cell? ⟨g, 3, none⟩ = some (.int .i64 t) := by
  obtain ⟨g, x, y, z, h1, h2⟩ := h
  exact ⟨g, h1, (blk_cell h2 3).trans rfl⟩
theorem below_on {a b c : World} (h : Below a.heap.size a b) (k : Below b.heap.size b c) : Below a.heap.size a c := below_step h k
/-- From the second step of the processor on. -/
theorem tail7 (k : Nat) {p ar : List Int} {gp cp : Nat} {A : Option Addr} {cA gA gR : Nat} {r21 r24 r25 r26 r31 r34 r35 r36 r41 r44 r45 r46 r51 r54 r55 r56 : Int} {r22 r23 r32 r33 r42 r43 r52 r53 : List Int} (a : Act) (w W : World) (hp : 2 < p.length)
    (s2 : impl_StepCpu.f k (Int.tmod (rd p 0) 60) [] ([] : List S64) ar 0 4 0 = some (r21, r22, r23, r24, r25, r26, 6))
    (s3 : impl_StepCpu.f k 0 [] [(⟨wrap64 (18 + Int.tmod (rd p 1) 200), 0⟩ : S64)] ar 0 4 0 = some (r31, r32, r33, r34, r35, r36, 1)) (s4 : impl_StepCpu.f k 0 (List.replicate 8 0) [(⟨1, 1⟩ : S64)] ar 0 4 0 = some (r41, r42, r43, r44, r45, r46, 4))
    (s5 : impl_StepCpu.f k 0 [] [(⟨17, 0⟩ : S64)] ar 0 4 (rd p 2) = some (r51, r52, r53, r54, r55, r56, 0)) (hr : 0 < r52.length) (he : rd r52 0 = rd p 2) (hB6 : Bs a w p ar gp cp A cA gA gR) (E8 : Ef a w 8 5) (hW : Below W.heap.size W w) :
    (tl (Try.f9.body.getD .skip) 6).wp Try.prog (bodyPost Try.prog Try.f9 fun e w' => e = .returned (.bool true) ∧ Below W.heap.size W w') a w := by
  rw [show tl (Try.f9.body.getD .skip) 6 = .seq (.region 7 (opsOf Try.f9 7) true) (tl (Try.f9.body.getD .skip) 7) from by kernel_rfl]
  refine wp_seq (reg7 k a w _ (by omega) s2 hB6 fun a7 w7 _ g2 _ hB7 hb7 hs7 e7 k7 _ _ _ => ?_)
  show (tl (Try.f9.body.getD .skip) 7).wp Try.prog _ a7 w7
  have E11 : Ef a7 w7 11 6 := ⟨g2, _, _, _, e7, k7⟩
  replace E8 := E8.on hb7 (hs7 8 rfl)
  replace hW := below_on hW hb7
  clear hB6 hb7 hs7 e7 k7
  rw [show tl (Try.f9.body.getD .skip) 7 = .seq (.region 8 (opsOf Try.f9 8) true) (tl (Try.f9.body.getD .skip) 8) from by kernel_rfl]
  refine wp_seq (reg8 k a7 w7 _ (by omega) s3 hB7 fun a8 w8 _ g2 _ hB8 hb8 hs8 e8 k8 _ _ _ => ?_)
  show (tl (Try.f9.body.getD .skip) 8).wp Try.prog _ a8 w8
  have E14 : Ef a8 w8 14 1 := ⟨g2, _, _, _, e8, k8⟩
  replace E8 := E8.on hb8 (hs8 8 rfl)
  replace E11 := E11.on hb8 (hs8 11 rfl)
  replace hW := below_on hW hb8
  clear hB7 hb8 hs8 e8 k8
  rw [show tl (Try.f9.body.getD .skip) 8 = .seq (.region 9 (opsOf Try.f9 9) false) (tl (Try.f9.body.getD .skip) 9) from by kernel_rfl]
  refine wp_seq (reg9 a8 w8 _ hB8 fun a9 w9 gF AS cS hB9 hb9 hs9 e9 k9 hf9 => ?_)
  show (tl (Try.f9.body.getD .skip) 9).wp Try.prog _ a9 w9
  replace E8 := E8.on hb9 (hs9 8 rfl)
  replace E11 := E11.on hb9 (hs9 11 rfl)
  replace E14 := E14.on hb9 (hs9 14 rfl)
  replace hW := below_on hW hb9
  clear hB8 hb9 hs9
  rw [show tl (Try.f9.body.getD .skip) 9 = .seq (.region 10 (opsOf Try.f9 10) false) (tl (Try.f9.body.getD .skip) 10) from by kernel_rfl]
  refine wp_seq (reg10 k a9 w9 _ s4 hB9 e9 k9 hf9 fun a10 w10 _ g2 _ hB10 hb10 hs10 e10 k10 _ _ _ => ?_)
  show (tl (Try.f9.body.getD .skip) 10).wp Try.prog _ a10 w10
  have E18 : Ef a10 w10 18 4 := ⟨g2, _, _, _, e10, k10⟩
  replace E8 := E8.on hb10 (hs10 8 rfl)
  replace E11 := E11.on hb10 (hs10 11 rfl)
  replace E14 := E14.on hb10 (hs10 14 rfl)
  replace hW := below_on hW hb10
  clear hB9 hb10 hs10 e9 k9 hf9 e10 k10
  rw [show tl (Try.f9.body.getD .skip) 10 = .seq (.region 11 (opsOf Try.f9 11) true) (tl (Try.f9.body.getD .skip) 11) from by kernel_rfl]
  refine wp_seq (reg11 k a10 w10 _ hp s5 hB10 fun a11 w11 gx g2 v1 hB11 hb11 hs11 e11 k11 ex kx hx => ?_)
  show (tl (Try.f9.body.getD .skip) 11).wp Try.prog _ a11 w11
  have E21 : Ef a11 w11 21 0 := ⟨g2, _, _, _, e11, k11⟩
  replace E8 := E8.on hb11 (hs11 8 rfl)
  replace E11 := E11.on hb11 (hs11 11 rfl)
  replace E14 := E14.on hb11 (hs11 14 rfl)
  replace E18 := E18.on hb11 (hs11 18 rfl)
  replace hW := below_on hW hb11
  clear hB10 hb11 hs11 e11 k11
  obtain ⟨h8, d8, c8⟩ := E8.cell
  obtain ⟨h11, d11, c11⟩ := E11.cell
  obtain ⟨h14, d14, c14⟩ := E14.cell
  obtain ⟨h18, d18, c18⟩ := E18.cell
  obtain ⟨h21, d21, c21⟩ := E21.cell
  obtain ⟨gs, cs, rfl, _, _, _⟩ := Kd.R_form hx hr
  obtain ⟨ad, ea, hc⟩ := Kd.at_int (Kd.R_reads' hx).2.2 0 (by omega) (by omega)
  injection ea with ea
  subst ea
  rw [he] at hc
  rw [show tl (Try.f9.body.getD .skip) 11 = .seq (.region 12 (opsOf Try.f9 12) true) .ret from by kernel_rfl]
  refine wp_seq (reg12 a11 w11 _ hp hB11 d8 c8 d11 c11 d14 c14 d18 c18 d21 c21 ex ((blk_cell kx 1).trans rfl) hr hc fun a12 w12 hd12 e12 hb12 => ?_)
  show Code.ret.wp Try.prog _ a12 w12
  refine wp_ret (bodyPost_ret (results_tmp rfl _ _ _) hd12 ?_)
  refine ⟨?_, below_on hW hb12⟩
  rw [Array.getD_eq_getD_getElem?, e12]
  rfl
/-- What true says of the law's own function. -/
theorem laws_FnTraps.inv {k : Nat} {l0 : List Int} (h : laws_FnTraps.f k l0 = some true) : laws_big.f l0 = some true ∨ (laws_big.f l0 = some false ∧ ∃ p ar, spec_DrawPlaces.f k l0 = some p ∧ impl_ArenaNew.f = some ar ∧ 2 < p.length ∧ ∃ x1 x2 x3 x4 x5,
    impl_StepCpu.f k 0 [] [(⟨4, 0⟩ : S64)] ar 0 4 0 = some x1 ∧ x1.2.2.2.2.2.2 = 5 ∧ impl_StepCpu.f k (Int.tmod (rd p 0) 60) [] ([] : List S64) ar 0 4 0 = some x2 ∧ x2.2.2.2.2.2.2 = 6 ∧ impl_StepCpu.f k 0 [] [(⟨wrap64 (18 + Int.tmod (rd p 1) 200), 0⟩ : S64)] ar 0 4 0 = some x3 ∧ x3.2.2.2.2.2.2 = 1 ∧
    impl_StepCpu.f k 0 (List.replicate 8 0) [(⟨1, 1⟩ : S64)] ar 0 4 0 = some x4 ∧ x4.2.2.2.2.2.2 = 4 ∧ impl_StepCpu.f k 0 [] [(⟨17, 0⟩ : S64)] ar 0 4 (rd p 2) = some x5 ∧ x5.2.2.2.2.2.2 = 0 ∧ 0 < x5.2.1.length ∧ rd x5.2.1 0 = rd p 2) := by
  unfold laws_FnTraps.f at h
  obtain ⟨t, h1, h⟩ := Option.bind_eq_some_iff.mp h
  cases t
  rotate_left
  · exact .inl h1
  refine .inr ⟨h1, ?_⟩
  rw [if_neg (by decide)] at h
  obtain ⟨p, h2, h⟩ := Option.bind_eq_some_iff.mp h
  obtain ⟨ar, h3, h⟩ := Option.bind_eq_some_iff.mp h
  obtain ⟨x1, q1, h⟩ := Option.bind_eq_some_iff.mp h
  by_cases c0 : 0 < (p.length : Int)
  rotate_left
  · rw [if_neg c0] at h; cases h
  rw [if_pos c0] at h
  obtain ⟨x2, q2, h⟩ := Option.bind_eq_some_iff.mp h
  by_cases c1 : 1 < (p.length : Int)
  rotate_left
  · rw [if_neg c1] at h; cases h
  rw [if_pos c1] at h
  obtain ⟨x3, q3, h⟩ := Option.bind_eq_some_iff.mp h
  rw [if_pos (by decide)] at h
  obtain ⟨x4, q4, h⟩ := Option.bind_eq_some_iff.mp h
  by_cases c2 : 2 < (p.length : Int)
  rotate_left
  · rw [if_neg c2] at h; cases h
  rw [if_pos c2] at h
  obtain ⟨x5, q5, h⟩ := Option.bind_eq_some_iff.mp h
  by_cases d1 : x1.2.2.2.2.2.2 = 5
  rotate_left
  · rw [if_neg d1] at h; cases h
  rw [if_pos d1] at h
  by_cases d2 : x2.2.2.2.2.2.2 = 6
  rotate_left
  · rw [if_neg d2] at h; cases h
  rw [if_pos d2] at h
  by_cases d3 : x3.2.2.2.2.2.2 = 1
  rotate_left
  · rw [if_neg d3] at h; cases h
  rw [if_pos d3] at h
  by_cases d4 : x4.2.2.2.2.2.2 = 4
  rotate_left
  · rw [if_neg d4] at h; cases h
  rw [if_pos d4] at h
  by_cases d5 : x5.2.2.2.2.2.2 = 0
  rotate_left
  · rw [if_neg d5] at h; cases h
  rw [if_pos d5] at h
  by_cases c3 : 0 < (x5.2.1.length : Int)
  rotate_left
  · rw [if_neg c3] at h; cases h
  rw [if_pos c3] at h
  have h9 := Option.some.inj h
  exact ⟨p, ar, h2, h3, by omega, x1, x2, x3, x4, x5, q1, d1, q2, d2, q3, d3, q4, d4, q5, d5, by omega, beq_iff_eq.mp h9⟩
set_option maxHeartbeats 4000000 in
set_option maxRecDepth 100000 in
theorem laws_FnTraps.calls (k : Nat) (A0 : Option Addr) (c0 : Nat) (l0 : List Int) (r : Bool) (hrt : Aside0 (r = true)) (w : World) (hr0 : Kd.C (Kd.int .u8) w A0 l0.length l0) (hc0 : l0.length ≤ c0) (h : laws_FnTraps.f k l0 = some r) :
    Calls Try.prog 9 #[.slice A0 l0.length c0] w fun e w' => e = .returned (.bool r) ∧ Below w.heap.size w w' := by
  have hu29 := Try.underlying29
  have hu32 := Try.underlying32
  obtain rfl := hrt.out
  have HB := Aside0.mk (Below.refl w.heap.size w)
  rcases laws_FnTraps.inv h with h1 | ⟨h1, p, ar, h2, h3, hp, x1, x2, x3, x4, x5, q1, d1, q2, d2, q3, d3, q4, d4, q5, d5, hx, hxe⟩
  · clear h
    go_enter Try.func9, Try.ntmps9
    go_wp2_with (first | ((with_reducible refine gate_callee (f := 13) rfl ?_); refine goesL_ (some 23) rfl rfl Try.func13 (by kernel_rfl) rfl #[.slice A0 l0.length c0] rfl (by (try simp only [List.map_toArray, List.map_cons, List.map_nil]); first | done | rfl) ?_; (with_reducible refine (laws_big.calls _ _ l0 true _ hr0 hc0 h1).mono ?_); rintro e w' ⟨rfl, ⟨nd, rfl⟩⟩; refine ⟨_, rfl, ?_⟩))
    go_ret
    exact ⟨rfl, pw_below_drewN HB.out _⟩
  · clear h
    obtain ⟨r11, r12, r13, r14, r15, r16, r17⟩ := x1
    obtain ⟨r21, r22, r23, r24, r25, r26, r27⟩ := x2
    obtain ⟨r31, r32, r33, r34, r35, r36, r37⟩ := x3
    obtain ⟨r41, r42, r43, r44, r45, r46, r47⟩ := x4
    obtain ⟨r51, r52, r53, r54, r55, r56, r57⟩ := x5
    simp only at d1 d2 d3 d4 d5
    subst d1 d2 d3 d4 d5
    have Q1 := Aside0.mk q1
    have Q2 := Aside0.mk q2
    have Q3 := Aside0.mk q3
    have Q4 := Aside0.mk q4
    have Q5 := Aside0.mk q5
    have HX := Aside0.mk hx
    have HE := Aside0.mk hxe
    have HP := Aside0.mk hp
    clear q1 q2 q3 q4 q5 hx hxe hp
    go_enter Try.func9, Try.ntmps9
    go_upto_region 6 with (first
      | ((with_reducible refine gate_callee (f := 13) rfl ?_); refine goesL_ (some 23) rfl rfl Try.func13 (by kernel_rfl) rfl #[.slice A0 l0.length c0] rfl (by (try simp only [List.map_toArray, List.map_cons, List.map_nil]); first | done | rfl) ?_; (with_reducible refine (laws_big.calls _ _ l0 false _ hr0 hc0 h1).mono ?_); rintro e w' ⟨rfl, ⟨nd, rfl⟩⟩; refine ⟨_, rfl, ?_⟩)
      | ((with_reducible refine gate_callee (f := 15) rfl ?_); refine goesL_ (some 25) rfl rfl Try.func15 (by kernel_rfl) rfl #[.slice A0 l0.length c0] rfl (by (try simp only [List.map_toArray, List.map_cons, List.map_nil]); first | done | rfl) ?_; (with_reducible refine (spec_DrawPlaces.calls k _ _ l0 p _ ?side1 hc0 h2).mono ?_); (case side1 => repeat (first | exact hr0 | (with_reducible refine Kd.C_drewN ?_ _) | (with_reducible refine Kd.C_drew ?_))); rintro e w21 ⟨v217, rfl, ho0, hb⟩; refine ⟨_, rfl, ?_⟩; have HO := Aside0.mk (Kd.R_lower ho0 (Nat.zero_le _)); replace HB := Aside0.mk (below_step (by repeat (first | (with_reducible first | exact HB.out | apply pw_below_drewN | apply below_drew1) | exact HB.out)) hb); obtain ⟨gp, cp, rfl, _, _, _⟩ := Kd.R_form HO.out (Nat.lt_trans (by decide) HP.out); clear hb ho0)
      | ((with_reducible refine gate_callee (f := 16) rfl ?_); refine goesL_ (some 26) rfl rfl Try.func16 (by kernel_rfl) rfl #[] rfl (by (try simp only [List.map_toArray, List.map_cons, List.map_nil]); first | done | rfl) ?_; (with_reducible refine (impl_ArenaNew.calls ar _ h3).mono ?_); rintro e w22 ⟨v220, rfl, ho0, hb⟩; refine ⟨_, rfl, ?_⟩; have HA := Aside0.mk (Kd.R_lower ho0 (Nat.zero_le _)); replace HO := Aside0.mk (Kd.R_below HO.out hb); replace HB := Aside0.mk (below_step HB.out hb); obtain ⟨Ax, cx, rfl⟩ := Kd.R_slice HA.out; clear hb ho0)
      | ((with_reducible refine gate_dst (N := 4) rfl ?_); refine box_event ?hg (N := 4) ?hd (cs := #[.slice none 0 0]) (t := 29) ?hr ?_; (case hd => rfl); (case hg => rfl); (case hr => first | (go_simp; done) | (go_simp; rfl)); intro gA hg w23 hbox hb; have GA := Aside0.mk (show w.heap.size ≤ gA from by rw [hg]; exact HB.out.size); replace HO := Aside0.mk (Kd.R_below HO.out hb); replace HA := Aside0.mk (Kd.R_below HA.out hb); replace HB := Aside0.mk (below_step HB.out hb); have BA := Aside0.mk hbox; clear hb hbox hg; have hcA : w23.cell? ⟨gA, 0, none⟩ = some (.slice none 0 0) := (blk_cell BA.out 0).trans rfl; have hfA := blk_frozen BA.out 0)
      | ((with_reducible refine gate_dst (N := 5) rfl ?_); refine box_event ?hg (N := 5) ?hd (cs := #[.int .i64 0, .int .i64 0]) (t := 32) ?hr ?_; (case hd => rfl); (case hg => rfl); (case hr => first | (go_simp; done) | (go_simp; rfl)); intro gR hg w26 hbox hb; have GR := Aside0.mk (show w.heap.size ≤ gR from by rw [hg]; exact (below_set HB.out GA.out).size); replace HO := Aside0.mk (Kd.R_below (RB.far HO.out BA.out (by decide)) hb); replace HA := Aside0.mk (Kd.R_below (RB.far HA.out BA.out (by decide)) hb); replace HB := Aside0.mk (below_step (below_set HB.out GA.out) hb); replace BA := Aside0.mk (blk_below (blk_put BA.out 0 (.slice Ax ar.length cx) rfl) hb); have BR := Aside0.mk hbox; clear hb hbox hg; have hcR0 : w26.cell? ⟨gR, 0, none⟩ = some (.int .i64 0) := (blk_cell BR.out 0).trans rfl; have hcR1 : w26.cell? ⟨gR, 1, none⟩ = some (.int .i64 0) := (blk_cell BR.out 1).trans rfl; have hfR0 := blk_frozen BR.out 0; have hfR1 := blk_frozen BR.out 1))
    have n1 : gA ≠ gR := blk_ne BA.out BR.out (by decide)
    have k1 := blk_put BR.out 0 (.int .i64 0) rfl
    rename_i K hK
    refine reg6 k _ _ _ Q1.out (gp := gp) (cp := cp) (A := Ax) (cA := cx) (gA := gA) (gR := gR) (p := p) ?_ (fun a6 w6 _ g2 _ hB6 hb6 hs6 e6 k6 _ _ _ => hK a6 w6 (tail7 k a6 w6 w HP.out Q2.out Q3.out Q4.out Q5.out HX.out HE.out hB6 ⟨g2, _, _, _, e6, k6⟩ (below_on (below_set (below_set HB.out GR.out) GR.out) hb6)))
    exact ⟨rfl, rfl, rfl, rfl, rfl, RB.far (RB.far HO.out BR.out (by decide)) k1 (by decide), RB.far (RB.far HA.out BR.out (by decide)) k1 (by decide), blk_far (blk_far BA.out n1 _) n1 _, blk_put k1 1 (.int .i64 4) rfl⟩

/-- THE ONE PURE STATEMENT of laws_FnTraps: yours. -/
def laws_FnTraps.Pure : Prop := ∀ (l0 : List Int), l0.length ≤ maxLen → l0.length * 1 ≤ 140737488351232 → (∀ x ∈ l0, (Lit.int .u8 x).wf = true) → ∃ k, laws_FnTraps.f k l0 = some true
end Go.Proofs.Yteehopjgmgelnaa.PFnTraps
