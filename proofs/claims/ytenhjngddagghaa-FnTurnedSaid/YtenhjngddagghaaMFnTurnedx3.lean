/- The walks of what FnTurned reaches: lines of the kit's print for this claim, turned by hand where they did not build. -/
import Derived.Test.YtenhjngddagghaaMFnTurnedx0
import Derived.Test.YtenhjngddagghaaMFnTurnedx1
import Derived.Test.YtenhjngddagghaaMFnTurnedx2
import Derived.Lib.SmallJoins
namespace Go.Proofs.Ytenhjngddagghaa.PFnTurned
open Go.RowKit Go.Proofs.YtenhjngddagghaaW.PrintWords Go.Proofs.YtenhjngddagghaaW.PrintLast Go.Proofs.YtenhjngddagghaaW.PrintMore
attribute [local go_sem] max2_int min2_int max_two min_two max_three min_three max_four min_four   -- for this text's walks alone
set_option linter.unusedVariables false
set_option linter.unusedSimpArgs false

theorem valueL_ {P : Program} {ops : Array Oper} {Q : Exit → Act → World → Prop} {rest : List Oper} {oi : Oper} {a : Act} {w w1 : World} {v : Value} (N : Tmp) (hd : oi.dst = some N) (hg : oi.guard = none)
    (hrun : (execOp a.eval oi).run P w = .ok (.value v) w1) (h : wpList P ops Q rest (a.put (some N) v) w1) : wpList P ops Q (oi :: rest) a w := by
  refine wpList_plain hg fun K hK => ?_
  unfold Oper.wp
  rw [hrun]
  show K (a.put oi.dst v) w1
  rw [hd]
  exact hK _ _ h
theorem conv_sb {oi : Oper} {a : Act} {w : World} {s : ByteArray} (x : Operand) (ho : oi.op = .convert 9 22 x) (hx : a.eval x = .string s) :
    (execOp a.eval oi).run Try.prog w = .ok (.value (.slice (some ⟨w.heap.size, 0, none⟩) s.size (grownCap w s.size 0 5))) (Lib.bytesWorld w 5 s) := by
  unfold execOp
  simp [ho, hx, Lib.run_convert_string_bytes w 9 22 5 s Try.underlying9 Try.underlying22 Try.underlying5]
theorem conv_bs {oi : Oper} {a : Act} {w : World} (x : Operand) (g n c : Nat) (xs : List Int) (ho : oi.op = .convert 22 9 x) (hx : a.eval x = .slice (some ⟨g, 0, none⟩) n c) (hn : xs.length = n)
    (hc : ∀ i, i < n → w.cell? ⟨g, i, none⟩ = some (.int .u8 (xs.getD i 0))) :
    (execOp a.eval oi).run Try.prog w = .ok (.value (.string (strOfNums xs))) w := by
  unfold execOp
  have := run_convert_bytes_arg (P := Try.prog) (w := w) 22 5 Try.underlying22 Try.underlying5 g 0 n c xs hn (fun i hi => by rw [Nat.zero_add]; exact hc i hi) 9 Try.underlying9
  simp [ho, hx, this]
/-- A row of bytes that a conversion made. -/
def Br (w : World) (g : Nat) (l : List Int) : Prop := ∀ j : Nat, j < l.length → w.cell? ⟨g, j, none⟩ = some (.int .u8 (l.getD j 0)) ∧ w.frozen? ⟨g, j, none⟩ = false
theorem Br.cell {w : World} {g : Nat} {l : List Int} (h : Br w g l) (i : Int) (h0 : 0 ≤ i) (h1 : i < (l.length : Int)) : w.cell? ⟨g, i.toNat, none⟩ = some (.int .u8 (rd l i)) := (h i.toNat (by omega)).1
theorem Br.frozen {w : World} {g : Nat} {l : List Int} (h : Br w g l) (i : Int) (h0 : 0 ≤ i) (h1 : i < (l.length : Int)) : w.frozen? ⟨g, i.toNat, none⟩ = false := (h i.toNat (by omega)).2
theorem Br.drew {w : World} {g : Nat} {l : List Int} (h : Br w g l) : Br w.drew g l := h
theorem Br.put {w : World} {g : Nat} {l : List Int} (h : Br w g l) (i : Int) (x : Int) : Br (w.setCell ⟨g, i.toNat, none⟩ (.int .u8 x)) g (l.set i.toNat x) := by
  intro j hj
  rw [List.length_set] at hj
  obtain ⟨h1, h2⟩ := h j hj
  by_cases e : i.toNat = j
  · refine ⟨?_, by first | exact h2 | (rw [World.frozen?_setCell]; exact h2)⟩
    rw [e, World.cell?_setCell_same' _ _ _ (by rw [h1]; rfl)]
    simp [List.getD_eq_getElem?_getD, hj]
  · refine ⟨?_, by first | exact h2 | (rw [World.frozen?_setCell]; exact h2)⟩
    have q0 : (⟨g, i.toNat, none⟩ : Addr) ≠ ⟨g, j, none⟩ := by intro q; injection q with q1 q2; exact e q2
    rw [World.cell?_setCell_other _ _ _ _ q0, h1]
    simp [List.getD_eq_getElem?_getD, e]
theorem bytes_row (w : World) (s : ByteArray) (l : List Int) (hl : l = s.data.toList.map fun b => (b.toNat : Int)) : Br (Lib.bytesWorld w 5 s) w.heap.size l := by
  intro j hj
  have hs : l.length = s.size := by rw [hl, List.length_map, Array.length_toList]; rfl
  rw [hs] at hj
  refine ⟨?_, ?_⟩
  · rw [Lib.bytesWorld_cell w 5 s j hj, hl]
    have h3 : s.data.toList[j]? = some (s.data.toList[j]'(by rw [Array.length_toList]; exact hj)) := List.getElem?_eq_getElem _
    rw [List.getD_eq_getElem?_getD, List.getD_eq_getElem?_getD, List.getElem?_map, h3]
    rfl
  · have hz : s.size ≤ (Lib.bytesCells w 5 s).size := by
      unfold Lib.bytesCells
      rw [Array.size_append, Array.size_map]
      exact Nat.le_add_right _ _
    unfold World.frozen?
    rw [Lib.bytesWorld_at_new w 5 s]
    simp
    omega
/-- The step of the conversion: a new row with the text's bytes. -/
theorem turn_step {ops : Array Oper} {Q : Exit → Act → World → Prop} {rest : List Oper} {oi : Oper} {a : Act} {w W : World} {t : ByteArray} {p l : List Int} {v : Value} {x : Operand} (hl : l = t.data.toList.map fun b => (b.toNat : Int)) (hd : oi.dst = some 49) (hg : oi.guard = none) (ho : oi.op = .convert 9 22 x) (hx : a.eval x = .string t)
    (hB : Below w.heap.size w W) (hR : Kd.R (Kd.int .i64) 3 W w.heap.size (fun _ => True) v p)
    (h : ∀ (w1 : World) (g c : Nat), (Kd.R (Kd.int .i64) 3 w1 w.heap.size (fun _ => True) v p ∧ Below w.heap.size w w1) → Aside0 (w.heap.size ≤ g) → Br w1 g l →
      wpList Try.prog ops Q rest (a.put (some 49) (.slice (some ⟨g, 0, none⟩) l.length c)) w1) : wpList Try.prog ops Q (oi :: rest) a W := by
  have hb := Joins.below_bytesWorld W.heap.size W 5 t (Nat.le_refl _)
  have hs : t.size = l.length := by rw [hl, List.length_map, Array.length_toList]; rfl
  refine valueL_ 49 hd hg (conv_sb x ho hx) ?_
  rw [hs]
  exact h _ _ _ ⟨Kd.R_below hR hb, below_step hB hb⟩ ⟨below_size hB⟩ (bytes_row W t l hl)
/-! ### laws_FnTurned: function 3 -/
def laws_FnTurned.j0 : Nat → ByteArray → List Int → ByteArray → Bool → Option (Bool)
  | 0, _, _, _, _ => none
  | k + 1, x3, x4, x5, x47 => if x47 = true then (some false) else (if 0 ≤ (x5.size : Int) then (if ((x5.size : Int) : Int).toNat ≤ 281474976710656 then ((some ((x5.data.toList.map fun b_ => (b_.toNat : Int)) : List Int)).bind fun y173 => (if 0 < (x4.length : Int) then (if (y173.length : Int) = 0 then (none) else (if 0 ≤ (Int.tmod (rd x4 0) (y173.length : Int)) then (if (Int.tmod (rd x4 0) (y173.length : Int)) < (y173.length : Int) then (if 1 < (x4.length : Int) then ((impl_Unsealed.f k (strOfNums (y173.set ((Int.tmod (rd x4 0) (y173.length : Int)) : Int).toNat (Go.bits .xor .u8 (rd y173 (Int.tmod (rd x4 0) (y173.length : Int))) ((wrap64 (1 + (Int.tmod (rd x4 1) 255))) % 256))))).bind fun bt180 => (if bt180.2 = true then (some false) else ((impl_SumOf.f k x3).bind fun t182 => ((impl_SumMore.f k t182 (⟨#[120]⟩ : ByteArray)).bind fun t183 => (if x3.size + 1 ≤ 9223372036854775807 then ((impl_SumOf.f k (x3 ++ (⟨#[120]⟩ : ByteArray))).bind fun t184 => (some (t183 == t184))) else (none)))))) else (none)) else (none)) else (none))) else (none))) else (none)) else (none))
def laws_FnTurned.f (k : Nat) (l0 : List Int) : Option (Bool) := (laws_big.f l0).bind fun t164 => (if t164 = true then (some true) else ((spec_DrawSumOf.f k l0).bind fun t165 => ((spec_DrawPlaces.f k l0).bind fun t166 => ((impl_Sealed.f k t165).bind fun bt169 => ((impl_Unsealed.f k bt169.1).bind fun bt171 => (if bt169.2 = true then (if bt171.2 = true then (if bt171.1.toList = t165.toList then (laws_FnTurned.j0 k t165 t166 bt169.1 ((bt169.1.size : Int) != (wrap64 ((t165.size : Int) + 4)))) else (laws_FnTurned.j0 k t165 t166 bt169.1 true)) else (laws_FnTurned.j0 k t165 t166 bt169.1 true)) else (laws_FnTurned.j0 k t165 t166 bt169.1 true)))))))
theorem laws_FnTurned.mono_l : ∀ k, (∀ y0 y1 y2 y3, LeO (laws_FnTurned.j0 k y0 y1 y2 y3) (laws_FnTurned.j0 (k + 1) y0 y1 y2 y3))
  | 0 => fun _ _ _ _ r h => by simp [laws_FnTurned.j0] at h
  | k + 1 => by
    have ih0 := laws_FnTurned.mono_l k
    · intro y0 y1 y2 y3
      unfold laws_FnTurned.j0
      repeat' first
      | (with_reducible exact ih0 _ _ _ _)
      | (with_reducible exact impl_Sealed.mono _ _)
      | (with_reducible exact impl_SumMore.mono _ _ _)
      | (with_reducible exact impl_SumOf.mono _ _)
      | (with_reducible exact impl_Unsealed.mono _ _)
      | (with_reducible exact spec_DrawPlaces.mono _ _)
      | (with_reducible exact spec_DrawSumOf.mono _ _)
      | (with_reducible exact LeO.refl _)
      | (with_reducible exact LeO.none _)
      | (with_reducible refine LeO.ite ?_ ?_)
      | (with_reducible refine LeO.bind ?_ (fun _ => ?_))
      | exact ih0 _ _ _ _
      | exact impl_Sealed.mono _ _
      | exact impl_SumMore.mono _ _ _
      | exact impl_SumOf.mono _ _
      | exact impl_Unsealed.mono _ _
      | exact spec_DrawPlaces.mono _ _
      | exact spec_DrawSumOf.mono _ _
      | exact LeO.none _
      | refine LeO.ite ?_ ?_
      | refine LeO.bind ?_ (fun _ => ?_)
theorem laws_FnTurned.mono : ∀ a0 k, LeO (laws_FnTurned.f k a0) (laws_FnTurned.f (k + 1) a0) := by
  intro a0 k
  have ih0 := laws_FnTurned.mono_l k
  unfold laws_FnTurned.f
  repeat' first
      | (with_reducible exact ih0 _ _ _ _)
      | (with_reducible exact impl_Sealed.mono _ _)
      | (with_reducible exact impl_SumMore.mono _ _ _)
      | (with_reducible exact impl_SumOf.mono _ _)
      | (with_reducible exact impl_Unsealed.mono _ _)
      | (with_reducible exact spec_DrawPlaces.mono _ _)
      | (with_reducible exact spec_DrawSumOf.mono _ _)
      | (with_reducible exact LeO.refl _)
      | (with_reducible exact LeO.none _)
      | (with_reducible refine LeO.ite ?_ ?_)
      | (with_reducible refine LeO.bind ?_ (fun _ => ?_))
      | exact ih0 _ _ _ _
      | exact impl_Sealed.mono _ _
      | exact impl_SumMore.mono _ _ _
      | exact impl_SumOf.mono _ _
      | exact impl_Unsealed.mono _ _
      | exact spec_DrawPlaces.mono _ _
      | exact spec_DrawSumOf.mono _ _
      | exact LeO.none _
      | refine LeO.ite ?_ ?_
      | refine LeO.bind ?_ (fun _ => ?_)
def laws_FnTurned.T11 : Bool × List (List Nat × List Nat) := (true, [([], []), ([], []), ([], []), ([], []), ([2, 3], [2, 3]), ([4], [4]), ([], []), ([6], [6]), ([7], [7]), ([8], [8]), ([9], [9]), ([10], [10]), ([5, 11], [5, 11]), ([0, 1, 0, 1, 2, 3, 4, 5, 6, 7, 8, 9, 10, 11, 12], [0, 1]), ([13, 12, 0, 1, 2, 3, 4, 5, 6, 7, 8, 9, 10, 11, 12], [12, 13])])
def laws_FnTurned.B11 : List Nat := [0, 0, 0, 0, 12, 28, 0, 64, 192, 448, 960, 1984, 4092, 8191, 16383]
theorem laws_FnTurned.tab11 : rtab .any (opsOf Try.f3 11) = laws_FnTurned.T11 := by kernel_rfl
theorem laws_FnTurned.bits11 : waitsOk laws_FnTurned.T11.2 laws_FnTurned.B11 = true := by kernel_rfl
set_option maxHeartbeats 8000000 in
set_option maxRecDepth 100000 in
theorem laws_FnTurned.calls (k : Nat) (A0 : Option Addr) (c0 : Nat) (l0 : List Int) (r : Bool) (w : World) (hr0 : Kd.C (Kd.int .u8) w A0 l0.length l0) (hc0 : l0.length ≤ c0) (h : laws_FnTurned.f k l0 = some r) :
    Calls Try.prog 3 #[.slice A0 l0.length c0] w fun e w' => e = .returned (.bool r) ∧ Below w.heap.size w w' := by
  have HR0 := Aside0.mk hr0
  have HC0 := Aside0.mk hc0
  clear hr0 hc0
  have HB := Aside0.mk (Below.refl w.heap.size w)
  have H : ((laws_big.f l0).bind fun t164 => (if t164 = true then (some true) else ((spec_DrawSumOf.f k l0).bind fun t165 => ((spec_DrawPlaces.f k l0).bind fun t166 => ((impl_Sealed.f k t165).bind fun bt169 => ((impl_Unsealed.f k bt169.1).bind fun bt171 => (if bt169.2 = true then (if bt171.2 = true then (if bt171.1.toList = t165.toList then (laws_FnTurned.j0 k t165 t166 bt169.1 ((bt169.1.size : Int) != (wrap64 ((t165.size : Int) + 4)))) else (laws_FnTurned.j0 k t165 t166 bt169.1 true)) else (laws_FnTurned.j0 k t165 t166 bt169.1 true)) else (laws_FnTurned.j0 k t165 t166 bt169.1 true)))))))) = some r := h
  clear h
  replace H := Option.bind_eq_some_iff.mp H
  obtain ⟨t164, A20, H⟩ := H
  replace H : (if t164 = true then (some true) else ((spec_DrawSumOf.f k l0).bind fun t165 => ((spec_DrawPlaces.f k l0).bind fun t166 => ((impl_Sealed.f k t165).bind fun bt169 => ((impl_Unsealed.f k bt169.1).bind fun bt171 => (if bt169.2 = true then (if bt171.2 = true then (if bt171.1.toList = t165.toList then (laws_FnTurned.j0 k t165 t166 bt169.1 ((bt169.1.size : Int) != (wrap64 ((t165.size : Int) + 4)))) else (laws_FnTurned.j0 k t165 t166 bt169.1 true)) else (laws_FnTurned.j0 k t165 t166 bt169.1 true)) else (laws_FnTurned.j0 k t165 t166 bt169.1 true))))))) = some r := H
  have A2 := Aside0.mk A20
  clear A20
  by_cases c3 : t164 = true
  · subst c3
    have H1 : (some true) = some r := by rw [if_pos rfl] at H; exact H
    clear H
    have H := H1
    clear H1
    obtain rfl := Option.some.inj H
    go_enter Try.func3, Try.ntmps3
    go_wp2_with (first | ((with_reducible refine gate_callee (f := 4) rfl ?_); refine goesL_ (some 14) rfl rfl Try.func4 (by kernel_rfl) rfl #[.slice A0 l0.length c0] rfl (by (try simp only [List.map_toArray, List.map_cons, List.map_nil]); first | done | rfl | (simp only [List.length_drop, List.length_take]; rfl)) ?_; (with_reducible refine (laws_big.calls _ _ l0 true _ ?side1 ?side2 A2.out).mono ?_); (case side1 => repeat (first | exact HR0.out | (with_reducible refine Kd.C_alloc ?_ _) | (with_reducible refine Kd.C_drewN ?_ _) | (with_reducible refine Kd.C_drew ?_))); (case side2 => exact HC0.out); rintro e w' ⟨rfl, ⟨nd, rfl⟩⟩; refine ⟨_, rfl, ?_⟩))
    go_ret
    exact ⟨by first | rfl | (simp [errW_none, errW_some] <;> rfl) | (simp [*, errW_none, errW_some] <;> rfl), by repeat (first | (with_reducible first | exact HB.out | apply below_alloc | apply pw_below_drewN | apply below_drew1) | exact HB.out)⟩
  · replace c3 := Bool.eq_false_iff.mpr c3
    subst c3
    have H1 : ((spec_DrawSumOf.f k l0).bind fun t165 => ((spec_DrawPlaces.f k l0).bind fun t166 => ((impl_Sealed.f k t165).bind fun bt169 => ((impl_Unsealed.f k bt169.1).bind fun bt171 => (if bt169.2 = true then (if bt171.2 = true then (if bt171.1.toList = t165.toList then (laws_FnTurned.j0 k t165 t166 bt169.1 ((bt169.1.size : Int) != (wrap64 ((t165.size : Int) + 4)))) else (laws_FnTurned.j0 k t165 t166 bt169.1 true)) else (laws_FnTurned.j0 k t165 t166 bt169.1 true)) else (laws_FnTurned.j0 k t165 t166 bt169.1 true)))))) = some r := by rw [if_neg (show ¬ (false = true) by decide)] at H; exact H
    clear H
    have H := H1
    clear H1
    replace H := Option.bind_eq_some_iff.mp H
    obtain ⟨t165, A40, H⟩ := H
    replace H : ((spec_DrawPlaces.f k l0).bind fun t166 => ((impl_Sealed.f k t165).bind fun bt169 => ((impl_Unsealed.f k bt169.1).bind fun bt171 => (if bt169.2 = true then (if bt171.2 = true then (if bt171.1.toList = t165.toList then (laws_FnTurned.j0 k t165 t166 bt169.1 ((bt169.1.size : Int) != (wrap64 ((t165.size : Int) + 4)))) else (laws_FnTurned.j0 k t165 t166 bt169.1 true)) else (laws_FnTurned.j0 k t165 t166 bt169.1 true)) else (laws_FnTurned.j0 k t165 t166 bt169.1 true))))) = some r := H
    have A4 := Aside0.mk A40
    clear A40
    replace H := Option.bind_eq_some_iff.mp H
    obtain ⟨t166, A50, H⟩ := H
    replace H : ((impl_Sealed.f k t165).bind fun bt169 => ((impl_Unsealed.f k bt169.1).bind fun bt171 => (if bt169.2 = true then (if bt171.2 = true then (if bt171.1.toList = t165.toList then (laws_FnTurned.j0 k t165 t166 bt169.1 ((bt169.1.size : Int) != (wrap64 ((t165.size : Int) + 4)))) else (laws_FnTurned.j0 k t165 t166 bt169.1 true)) else (laws_FnTurned.j0 k t165 t166 bt169.1 true)) else (laws_FnTurned.j0 k t165 t166 bt169.1 true)))) = some r := H
    have A5 := Aside0.mk A50
    clear A50
    replace H := Option.bind_eq_some_iff.mp H
    obtain ⟨⟨t169, t170⟩, A60, H⟩ := H
    replace H : ((impl_Unsealed.f k t169).bind fun bt171 => (if t170 = true then (if bt171.2 = true then (if bt171.1.toList = t165.toList then (laws_FnTurned.j0 k t165 t166 t169 ((t169.size : Int) != (wrap64 ((t165.size : Int) + 4)))) else (laws_FnTurned.j0 k t165 t166 t169 true)) else (laws_FnTurned.j0 k t165 t166 t169 true)) else (laws_FnTurned.j0 k t165 t166 t169 true))) = some r := H
    have A6 := Aside0.mk A60
    clear A60
    replace H := Option.bind_eq_some_iff.mp H
    obtain ⟨⟨t171, t172⟩, A70, H⟩ := H
    replace H : (if t170 = true then (if t172 = true then (if t171.toList = t165.toList then (laws_FnTurned.j0 k t165 t166 t169 ((t169.size : Int) != (wrap64 ((t165.size : Int) + 4)))) else (laws_FnTurned.j0 k t165 t166 t169 true)) else (laws_FnTurned.j0 k t165 t166 t169 true)) else (laws_FnTurned.j0 k t165 t166 t169 true)) = some r := H
    have A7 := Aside0.mk A70
    clear A70
    have HC8 := Aside0.mk H
    clear H
    go_enter Try.func3, Try.ntmps3
    go_upto_region 7 with (first | ((with_reducible refine gate_callee (f := 4) rfl ?_); refine goesL_ (some 14) rfl rfl Try.func4 (by kernel_rfl) rfl #[.slice A0 l0.length c0] rfl (by (try simp only [List.map_toArray, List.map_cons, List.map_nil]); first | done | rfl | (simp only [List.length_drop, List.length_take]; rfl)) ?_; (with_reducible refine (laws_big.calls _ _ l0 false _ ?side1 ?side2 A2.out).mono ?_); (case side1 => repeat (first | exact HR0.out | (with_reducible refine Kd.C_alloc ?_ _) | (with_reducible refine Kd.C_drewN ?_ _) | (with_reducible refine Kd.C_drew ?_))); (case side2 => exact HC0.out); rintro e w' ⟨rfl, ⟨nd, rfl⟩⟩; refine ⟨_, rfl, ?_⟩) | ((with_reducible refine gate_callee (f := 5) rfl ?_); refine goesL_ (some 16) rfl rfl Try.func5 (by kernel_rfl) rfl #[.slice A0 l0.length c0] rfl (by (try simp only [List.map_toArray, List.map_cons, List.map_nil]); first | done | rfl | (simp only [List.length_drop, List.length_take]; rfl)) ?_; (with_reducible refine (spec_DrawSumOf.calls k _ _ l0 t165 _ ?side1 ?side2 A4.out).mono ?_); (case side1 => repeat (first | exact HR0.out | (with_reducible refine Kd.C_alloc ?_ _) | (with_reducible refine Kd.C_drewN ?_ _) | (with_reducible refine Kd.C_drew ?_))); (case side2 => exact HC0.out); rintro e w9 ⟨rfl, hb⟩; refine ⟨_, rfl, ?_⟩; have n0_ := Aside0.mk (below_step (by repeat (first | (with_reducible first | exact HB.out | apply below_alloc | apply pw_below_drewN | apply below_drew1) | exact HB.out)) hb); clear HB; have HB := n0_; clear n0_; (try clear hb); (try clear hb2); (try clear hk); (try clear hi)) | ((with_reducible refine gate_callee (f := 6) rfl ?_); refine goesL_ (some 18) rfl rfl Try.func6 (by kernel_rfl) rfl #[.slice A0 l0.length c0] rfl (by (try simp only [List.map_toArray, List.map_cons, List.map_nil]); first | done | rfl | (simp only [List.length_drop, List.length_take]; rfl)) ?_; (with_reducible refine (spec_DrawPlaces.calls k _ _ l0 t166 _ ?side1 ?side2 A5.out).mono ?_); (case side1 => repeat (first | exact (Kd.C_below HR0.out HB.out) | (with_reducible refine Kd.C_alloc ?_ _) | (with_reducible refine Kd.C_drewN ?_ _) | (with_reducible refine Kd.C_drew ?_))); (case side2 => exact HC0.out); rintro e w10 ⟨v167, rfl, ho0, hb⟩; refine ⟨_, rfl, ?_⟩; have n0_ := Aside0.mk (Kd.R_lower ho0 (below_size (by repeat (first | (with_reducible first | exact HB.out | apply below_alloc | apply pw_below_drewN | apply below_drew1) | exact HB.out)))); have n1_ := Aside0.mk (below_step (by repeat (first | (with_reducible first | exact HB.out | apply below_alloc | apply pw_below_drewN | apply below_drew1) | exact HB.out)) hb); clear HB; have HO168 := n0_; have HB := n1_; clear n0_ n1_; (try clear hb); (try clear hb2); (try clear hk); (try clear hi); (try clear ho0)) | ((with_reducible refine gate_callee (f := 7) rfl ?_); refine goesL_ (some 21) rfl rfl Try.func7 (by kernel_rfl) rfl #[.string t165] rfl (by (try simp only [List.map_toArray, List.map_cons, List.map_nil]); first | done | rfl | (simp only [List.length_drop, List.length_take]; rfl)) ?_; (with_reducible refine (impl_Sealed.calls k t165 t169 t170 _ A6.out).mono ?_); rintro e w11 ⟨rfl, hb⟩; refine ⟨_, rfl, ?_⟩; have n0_ := Aside0.mk (Kd.R_below (by (with_reducible repeat (first | apply Kd.R_alloc | apply Kd.R_drewN | apply Kd.R_drew)); exact HO168.out) hb); have n1_ := Aside0.mk (below_step (by repeat (first | (with_reducible first | exact HB.out | apply below_alloc | apply pw_below_drewN | apply below_drew1) | exact HB.out)) hb); clear HO168; clear HB; have HO168 := n0_; have HB := n1_; clear n0_ n1_; (try clear hb); (try clear hb2); (try clear hk); (try clear hi)) | ((with_reducible refine gate_callee (f := 8) rfl ?_); refine goesL_ (some 26) rfl rfl Try.func8 (by kernel_rfl) rfl #[.string t169] rfl (by (try simp only [List.map_toArray, List.map_cons, List.map_nil]); first | done | rfl | (simp only [List.length_drop, List.length_take]; rfl)) ?_; (with_reducible refine (impl_Unsealed.calls k t169 t171 t172 _ A7.out).mono ?_); rintro e w12 ⟨rfl, hb⟩; refine ⟨_, rfl, ?_⟩; have n0_ := Aside0.mk (Kd.R_below (by (with_reducible repeat (first | apply Kd.R_alloc | apply Kd.R_drewN | apply Kd.R_drew)); exact HO168.out) hb); have n1_ := Aside0.mk (below_step (by repeat (first | (with_reducible first | exact HB.out | apply below_alloc | apply pw_below_drewN | apply below_drew1) | exact HB.out)) hb); clear HO168; clear HB; have HO168 := n0_; have HB := n1_; clear n0_ n1_; (try clear hb); (try clear hb2); (try clear hk); (try clear hi)))
    (try simp only [Act.put, List.setIfInBounds_toArray, List.set_cons_zero, List.set_cons_succ])
    go_cut [47] (fun v47 wc => ∃ (kq : Nat) (x47_7 : Bool), v47 = .bool x47_7 ∧ Aside0 (laws_FnTurned.j0 kq t165 t166 t169 x47_7 = some r) ∧ Aside0 (kq ≤ k) ∧ Aside0 (Kd.R (Kd.int .i64) 3 wc w.heap.size (fun _ => True) v167 t166) ∧ Aside0 (Below w.heap.size w wc))
    case first =>
      have H := HC8.out
      clear HC8
      by_cases c13 : t170 = true
      · subst c13
        have H1 : (if t172 = true then (if t171.toList = t165.toList then (laws_FnTurned.j0 k t165 t166 t169 ((t169.size : Int) != (wrap64 ((t165.size : Int) + 4)))) else (laws_FnTurned.j0 k t165 t166 t169 true)) else (laws_FnTurned.j0 k t165 t166 t169 true)) = some r := by rw [if_pos rfl] at H; exact H
        clear H
        have H := H1
        clear H1
        by_cases c14 : t172 = true
        · subst c14
          have H1 : (if t171.toList = t165.toList then (laws_FnTurned.j0 k t165 t166 t169 ((t169.size : Int) != (wrap64 ((t165.size : Int) + 4)))) else (laws_FnTurned.j0 k t165 t166 t169 true)) = some r := by rw [if_pos rfl] at H; exact H
          clear H
          have H := H1
          clear H1
          by_cases c15 : t171.toList = t165.toList
          · rw [if_pos c15] at H
            have c15b0 : (t171.toList == t165.toList) = true := beq_iff_eq.mpr c15
            have c15b1 : (t171.toList != t165.toList) = false := bne_eq_false_iff_eq.mpr c15
            clear c15
            (first | rw [c15b0] | (simp only [i64_w, i32_w]; rw [c15b0]) | skip)
            have H' := Aside0.mk H
            clear H
            go_wp2
            go_meet
            case rel => exact ⟨_, (((t169.size : Int) != (wrap64 ((t165.size : Int) + 4)))), (by first | rfl | (simp; done) | (simp [*]; done)), H', ⟨by first | omega | exact Nat.le_refl _⟩, ⟨by (with_reducible repeat (first | apply Kd.R_alloc | apply Kd.R_drewN | apply Kd.R_drew)); exact HO168.out⟩, ⟨by repeat (first | (with_reducible first | exact HB.out | apply below_alloc | apply pw_below_drewN | apply below_drew1) | exact HB.out)⟩⟩
          · rw [if_neg c15] at H
            have c15b0 : (t171.toList == t165.toList) = false := beq_eq_false_iff_ne.mpr c15
            have c15b1 : (t171.toList != t165.toList) = true := bne_iff_ne.mpr c15
            (first | rw [c15b0] | (simp only [i64_w, i32_w]; rw [c15b0]) | skip)
            have H' := Aside0.mk H
            clear H
            go_wp2
            go_meet
            case rel => exact ⟨_, (true), (by first | rfl | (simp; done) | (simp [*]; done)), H', ⟨by first | omega | exact Nat.le_refl _⟩, ⟨by (with_reducible repeat (first | apply Kd.R_alloc | apply Kd.R_drewN | apply Kd.R_drew)); exact HO168.out⟩, ⟨by repeat (first | (with_reducible first | exact HB.out | apply below_alloc | apply pw_below_drewN | apply below_drew1) | exact HB.out)⟩⟩
        · replace c14 := Bool.eq_false_iff.mpr c14
          subst c14
          have H1 : (laws_FnTurned.j0 k t165 t166 t169 true) = some r := by rw [if_neg (show ¬ (false = true) by decide)] at H; exact H
          clear H
          have H := H1
          clear H1
          have H' := Aside0.mk H
          clear H
          go_wp2
          go_meet
          case rel => exact ⟨_, (true), (by first | rfl | (simp; done) | (simp [*]; done)), H', ⟨by first | omega | exact Nat.le_refl _⟩, ⟨by (with_reducible repeat (first | apply Kd.R_alloc | apply Kd.R_drewN | apply Kd.R_drew)); exact HO168.out⟩, ⟨by repeat (first | (with_reducible first | exact HB.out | apply below_alloc | apply pw_below_drewN | apply below_drew1) | exact HB.out)⟩⟩
      · replace c13 := Bool.eq_false_iff.mpr c13
        subst c13
        have H1 : (laws_FnTurned.j0 k t165 t166 t169 true) = some r := by rw [if_neg (show ¬ (false = true) by decide)] at H; exact H
        clear H
        have H := H1
        clear H1
        have H' := Aside0.mk H
        clear H
        go_wp2
        go_meet
        case rel => exact ⟨_, (true), (by first | rfl | (simp; done) | (simp [*]; done)), H', ⟨by first | omega | exact Nat.le_refl _⟩, ⟨by (with_reducible repeat (first | apply Kd.R_alloc | apply Kd.R_drewN | apply Kd.R_drew)); exact HO168.out⟩, ⟨by repeat (first | (with_reducible first | exact HB.out | apply below_alloc | apply pw_below_drewN | apply below_drew1) | exact HB.out)⟩⟩
    case rest =>
      clear HC8
      try clear c1
      try clear p2
      try clear c3
      try clear c4
      try clear c5
      try clear c6
      try clear p6
      try clear c7
      try clear c8
      try clear c13
      try clear c14
      try clear c15
      try clear c15b0
      try clear c15b1
      obtain ⟨kq, x47_7, rfl, HA, HJ7, HO_4, HB⟩ := hcut
      cases kq with
      | zero => exact absurd HA.out (by simp [laws_FnTurned.j0])
      | succ kj7 =>
        have H := HA.out
        clear HA
        simp only [laws_FnTurned.j0] at H
        by_cases c16 : x47_7 = true
        · subst c16
          have H1 : (some false) = some r := by rw [if_pos rfl] at H; exact H
          clear H
          have H := H1
          clear H1
          obtain rfl := Option.some.inj H
          go_wp2
          go_ret
          exact ⟨by first | rfl | (simp [errW_none, errW_some] <;> rfl) | (simp [*, errW_none, errW_some] <;> rfl), by repeat (first | (with_reducible first | exact HB.out | apply below_alloc | apply pw_below_drewN | apply below_drew1) | exact HB.out)⟩
        · replace c16 := Bool.eq_false_iff.mpr c16
          subst c16
          have H1 : (if 0 ≤ (t169.size : Int) then (if ((t169.size : Int) : Int).toNat ≤ 281474976710656 then ((some ((t169.data.toList.map fun b_ => (b_.toNat : Int)) : List Int)).bind fun y173 => (if 0 < (t166.length : Int) then (if (y173.length : Int) = 0 then (none) else (if 0 ≤ (Int.tmod (rd t166 0) (y173.length : Int)) then (if (Int.tmod (rd t166 0) (y173.length : Int)) < (y173.length : Int) then (if 1 < (t166.length : Int) then ((impl_Unsealed.f kj7 (strOfNums (y173.set ((Int.tmod (rd t166 0) (y173.length : Int)) : Int).toNat (Go.bits .xor .u8 (rd y173 (Int.tmod (rd t166 0) (y173.length : Int))) ((wrap64 (1 + (Int.tmod (rd t166 1) 255))) % 256))))).bind fun bt180 => (if bt180.2 = true then (some false) else ((impl_SumOf.f kj7 t165).bind fun t182 => ((impl_SumMore.f kj7 t182 (⟨#[120]⟩ : ByteArray)).bind fun t183 => (if t165.size + 1 ≤ 9223372036854775807 then ((impl_SumOf.f kj7 (t165 ++ (⟨#[120]⟩ : ByteArray))).bind fun t184 => (some (t183 == t184))) else (none)))))) else (none)) else (none)) else (none))) else (none))) else (none)) else (none)) = some r := by rw [if_neg (show ¬ (false = true) by decide)] at H; exact H
          clear H
          have H := H1
          clear H1
          by_cases c17 : 0 ≤ (t169.size : Int)
          · rw [if_pos c17] at H
            have c17b0 := eq_true c17
            have c17b1 : decide (0 ≤ (t169.size : Int)) = true := decide_eq_true c17
            clear c17
            by_cases c18 : ((t169.size : Int) : Int).toNat ≤ 281474976710656
            · rw [if_pos c18] at H
              have c18b0 := eq_true c18
              have c18b1 : decide (((t169.size : Int) : Int).toNat ≤ 281474976710656) = true := decide_eq_true c18
              clear c18
              obtain ⟨y173, hy173⟩ : ∃ y_ : List Int, y_ = ((t169.data.toList.map fun b_ => (b_.toNat : Int))) := ⟨_, rfl⟩
              replace H : (if 0 < (t166.length : Int) then (if (y173.length : Int) = 0 then (none) else (if 0 ≤ (Int.tmod (rd t166 0) (y173.length : Int)) then (if (Int.tmod (rd t166 0) (y173.length : Int)) < (y173.length : Int) then (if 1 < (t166.length : Int) then ((impl_Unsealed.f kj7 (strOfNums (y173.set ((Int.tmod (rd t166 0) (y173.length : Int)) : Int).toNat (Go.bits .xor .u8 (rd y173 (Int.tmod (rd t166 0) (y173.length : Int))) ((wrap64 (1 + (Int.tmod (rd t166 1) 255))) % 256))))).bind fun bt180 => (if bt180.2 = true then (some false) else ((impl_SumOf.f kj7 t165).bind fun t182 => ((impl_SumMore.f kj7 t182 (⟨#[120]⟩ : ByteArray)).bind fun t183 => (if t165.size + 1 ≤ 9223372036854775807 then ((impl_SumOf.f kj7 (t165 ++ (⟨#[120]⟩ : ByteArray))).bind fun t184 => (some (t183 == t184))) else (none)))))) else (none)) else (none)) else (none))) else (none)) = some r := by first | (rw [hy173]; with_reducible exact H) | (have H2_ := (Option.bind_some _ _).symm.trans H; rw [hy173]; with_reducible exact H2_) | (have H2_ := (Option.bind_some _ _).symm.trans H; with_reducible exact H2_) | with_reducible exact H | (rw [hy173]; exact H) | exact H
              have Ny173 := Aside0.mk hy173
              clear hy173
              by_cases c19 : 0 < (t166.length : Int)
              · rw [if_pos c19] at H
                have c19b0 : decide (0 < (t166.length : Int)) = true := decide_eq_true c19
                have c19b1 : decide (0 < t166.length) = true := decide_eq_true (by omega)
                clear c19
                by_cases c20 : (y173.length : Int) = 0
                · rw [if_pos c20] at H
                  exact absurd H (by simp)
                · rw [if_neg c20] at H
                  have c20b0 : ((y173.length : Int) == 0) = false := beq_eq_false_iff_ne.mpr c20
                  have c20b1 : ((y173.length : Int) != 0) = true := bne_iff_ne.mpr c20
                  have c20b2 : ¬ (y173 = []) := fun h_ => c20 (by rw [h_]; rfl)
                  obtain ⟨ji21, hji21⟩ : ∃ j_ : Int, (Int.tmod (rd t166 0) (y173.length : Int)) = j_ := ⟨_, rfl⟩
                  replace H : (if 0 ≤ (ji21) then (if (ji21) < (y173.length : Int) then (if 1 < (t166.length : Int) then ((impl_Unsealed.f kj7 (strOfNums (y173.set ((ji21) : Int).toNat (Go.bits .xor .u8 (rd y173 (ji21)) ((wrap64 (1 + (Int.tmod (rd t166 1) 255))) % 256))))).bind fun bt180 => (if bt180.2 = true then (some false) else ((impl_SumOf.f kj7 t165).bind fun t182 => ((impl_SumMore.f kj7 t182 (⟨#[120]⟩ : ByteArray)).bind fun t183 => (if t165.size + 1 ≤ 9223372036854775807 then ((impl_SumOf.f kj7 (t165 ++ (⟨#[120]⟩ : ByteArray))).bind fun t184 => (some (t183 == t184))) else (none)))))) else (none)) else (none)) else (none)) = some r := by first | (rw [hji21] at H; exact H) | (simp only [hji21] at H ⊢; exact H)
                  by_cases c22 : 0 ≤ (ji21)
                  · rw [if_pos c22] at H
                    have c22b0 : decide (0 ≤ (ji21)) = true := decide_eq_true c22
                    clear c22
                    by_cases c23 : (ji21) < (y173.length : Int)
                    · rw [if_pos c23] at H
                      have c23b0 : decide ((ji21) < (y173.length : Int)) = true := decide_eq_true c23
                      clear c23
                      by_cases c24 : 1 < (t166.length : Int)
                      · rw [if_pos c24] at H
                        have c24b0 : decide (1 < (t166.length : Int)) = true := decide_eq_true c24
                        have c24b1 : decide (1 < t166.length) = true := decide_eq_true (by omega)
                        clear c24
                        obtain ⟨y179, hy179⟩ : ∃ y_ : List Int, y_ = (y173.set ((ji21) : Int).toNat (Go.bits .xor .u8 (rd y173 (ji21)) ((wrap64 (1 + (Int.tmod (rd t166 1) 255))) % 256))) := ⟨_, rfl⟩
                        replace H : ((impl_Unsealed.f kj7 (strOfNums y179)).bind fun bt180 => (if bt180.2 = true then (some false) else ((impl_SumOf.f kj7 t165).bind fun t182 => ((impl_SumMore.f kj7 t182 (⟨#[120]⟩ : ByteArray)).bind fun t183 => (if t165.size + 1 ≤ 9223372036854775807 then ((impl_SumOf.f kj7 (t165 ++ (⟨#[120]⟩ : ByteArray))).bind fun t184 => (some (t183 == t184))) else (none)))))) = some r := by first | (rw [hy179]; with_reducible exact H) | (have H2_ := (Option.bind_some _ _).symm.trans H; rw [hy179]; with_reducible exact H2_) | (have H2_ := (Option.bind_some _ _).symm.trans H; with_reducible exact H2_) | with_reducible exact H | (rw [hy179]; exact H) | exact H
                        have Ny179 := Aside0.mk hy179
                        clear hy179
                        replace H := Option.bind_eq_some_iff.mp H
                        obtain ⟨⟨t180, t181⟩, A260, H⟩ := H
                        replace H : (if t181 = true then (some false) else ((impl_SumOf.f kj7 t165).bind fun t182 => ((impl_SumMore.f kj7 t182 (⟨#[120]⟩ : ByteArray)).bind fun t183 => (if t165.size + 1 ≤ 9223372036854775807 then ((impl_SumOf.f kj7 (t165 ++ (⟨#[120]⟩ : ByteArray))).bind fun t184 => (some (t183 == t184))) else (none))))) = some r := H
                        have A26 := Aside0.mk A260
                        clear A260
                        by_cases c27 : t181 = true
                        · subst c27
                          have H1 : (some false) = some r := by rw [if_pos rfl] at H; exact H
                          clear H
                          have H := H1
                          clear H1
                          obtain rfl := Option.some.inj H
                          try go_wp2_with (first | ((with_reducible refine gate_dst (N := 49) rfl ?_); refine turn_step (t := t169) (p := t166) (w := w) (l := y173) Ny173.out rfl rfl rfl rfl (by repeat (first | (with_reducible first | exact HB.out | apply below_alloc | apply pw_below_drewN | apply below_drew1) | exact HB.out)) (by (with_reducible repeat (first | apply Kd.R_alloc | apply Kd.R_drewN | apply Kd.R_drew)); exact HO_4.out) ?_; intro w28 gq20 cap20 hb20 HG20 HR20; clear HO_4; clear HB; have HO_4 := Aside0.mk hb20.1; have HB := Aside0.mk hb20.2; have HO175 := Aside0.mk HR20; clear hb20 HR20; obtain ⟨Ao30, co30, eo30⟩ := Kd.R_slice HO_4.out; subst eo30; have p176 : 0 ≤ (0 : Int) := (by omega); have q176 : 0 < (t166.length : Int) := of_decide_eq_true (by first | (with_reducible assumption) | assumption); obtain ⟨ad176, e176, hx176_0⟩ := Kd.at_int (Kd.R_reads' HO_4.out).2.2 0 p176 q176; cases e176; have qi176 : (0 < t166.length) = True := eq_true (by omega); (try rw [show ((0 : Int)).toNat = 0 from rfl] at hx176_0); (try rw [Addr.add_zero'] at hx176_0); replace p176 := eq_true p176; replace q176 := eq_true q176))
                          have n0_ := Aside0.mk (Kd.R_drew HO_4.out)
                          have n1_ := Aside0.mk (Br.drew HO175.out)
                          have n2_ := Aside0.mk (below_drew1 HB.out)
                          clear HO_4
                          clear HO175
                          clear HB
                          have HO_4 := n0_
                          have HO175 := n1_
                          have HB := n2_
                          clear n0_ n1_ n2_
                          have p177 : 0 ≤ ((ji21) : Int) := of_decide_eq_true (by first | (with_reducible assumption) | assumption)
                          have q177 : (ji21) < (y173.length : Int) := of_decide_eq_true (by first | (with_reducible assumption) | assumption)
                          have hx177_0 := Br.cell HO175.out (ji21) p177 q177
                          replace p177 := eq_true p177
                          replace q177 := eq_true q177
                          have p178 : 0 ≤ (1 : Int) := (by omega)
                          have q178 : 1 < (t166.length : Int) := of_decide_eq_true (by first | (with_reducible assumption) | assumption)
                          obtain ⟨ad178, e178, hx178_0⟩ := Kd.at_int (Kd.R_reads' HO_4.out).2.2 1 p178 q178
                          obtain rfl : ad176 = ad178 := (by injection e178)
                          (try simp only [show (1 : Int).toNat = 1 from rfl, Nat.reduceMul, Nat.reduceEqDiff, Go.Addr.add, ↓reduceIte] at hx178_0)
                          have qi178 : (1 < t166.length) = True := eq_true (by omega)
                          (try rw [show ((1 : Int)).toNat = 1 from rfl] at hx178_0)
                          replace p178 := eq_true p178
                          replace q178 := eq_true q178
                          have p25 : 0 ≤ ((ji21) : Int) := of_decide_eq_true (by first | (with_reducible assumption) | assumption)
                          have q25 : ((ji21) : Int) < ((y173.length : Int) : Int) := of_decide_eq_true (by first | (with_reducible assumption) | assumption)
                          have GB25 := HG20
                          have hx25_0 := Br.cell HO175.out (ji21) p25 q25
                          have hf25_0 := Br.frozen HO175.out (ji21) p25 q25
                          replace p25 := eq_true p25
                          replace q25 := eq_true q25
                          have HP33 := Br.put HO175.out ((ji21) : Int) (Go.bits .xor .u8 (rd y173 (ji21)) ((wrap64 (1 + (Int.tmod (rd t166 1) 255))) % 256))
                          rw [← Ny179.out] at HP33
                          have HQ33 := Aside0.mk HP33
                          clear HP33
                          refine start_ (n := 15) (S := fun w' => w'.cell? ⟨gq20, ((ji21)).toNat, none⟩ = some (.int .u8 (rd y173 (ji21))) ∧ w'.cell? ⟨ad176.block, ad176.off + 1, none⟩ = some (.int .i64 (rd t166 1))) (ds := [14]) #[false, false, false, false, false, false, false, false, false, false, false, false, false, false, false] (by kernel_rfl) rfl rfl ⟨hx177_0, hx178_0⟩ (fun hHeld => ?_); refine with_tabW laws_FnTurned.tab11 laws_FnTurned.bits11 (fun HT_ HW_ => ?_)
                          generalize w28.drew = w32 at HO_4 HO175 HB HQ33 hf25_0 hx177_0 hx178_0 hx25_0 hHeld ⊢
                          refine pure_ (i := 0) (N := some 56) (v := ?_) (a' := ?_) #[true, false, false, false, false, false, false, false, false, false, false, false, false, false, false] rfl rfl (any_of HT_.out (by kernel_rfl)) (fun _ _ _ h => h) (Or.inl ⟨by rfl, ?_⟩) ?_ ?_
                          rotate_left
                          · intro w'
                            go_simp
                            with_reducible rfl
                          rotate_left
                          · simp only [Act.put, List.setIfInBounds_toArray, List.set_cons_zero, List.set_cons_succ, i64_w, i32_w]
                            rfl
                          refine pure_ (i := 1) (N := some 57) (v := ?_) (a' := ?_) #[true, true, false, false, false, false, false, false, false, false, false, false, false, false, false] rfl rfl (any_of HT_.out (by kernel_rfl)) (fun _ _ _ h => h) (Or.inl ⟨by rfl, ?_⟩) ?_ ?_
                          rotate_left
                          · intro w'
                            go_simp
                            with_reducible rfl
                          rotate_left
                          · simp only [Act.put, List.setIfInBounds_toArray, List.set_cons_zero, List.set_cons_succ, i64_w, i32_w]
                            rfl
                          refine pure_ (i := 2) (N := some 58) (v := ?_) (a' := ?_) #[true, true, true, false, false, false, false, false, false, false, false, false, false, false, false] rfl rfl (any_of HT_.out (by kernel_rfl)) (fun _ _ _ h => h) (Or.inl ⟨by rfl, ?_⟩) ?_ ?_
                          rotate_left
                          · intro w'
                            go_simp
                            with_reducible rfl
                          rotate_left
                          · simp only [Act.put, List.setIfInBounds_toArray, List.set_cons_zero, List.set_cons_succ, i64_w, i32_w]
                            rfl
                          refine pure_ (i := 3) (N := some 59) (v := ?_) (a' := ?_) #[true, true, true, true, false, false, false, false, false, false, false, false, false, false, false] rfl rfl (any_of HT_.out (by kernel_rfl)) (fun _ _ _ h => h) (Or.inl ⟨by rfl, ?_⟩) ?_ ?_
                          rotate_left
                          · intro w'
                            go_simp
                            with_reducible rfl
                          rotate_left
                          · simp only [Act.put, List.setIfInBounds_toArray, List.set_cons_zero, List.set_cons_succ, i64_w, i32_w]
                            rfl
                          refine pure_ (i := 4) (N := some 60) (v := ?_) (a' := ?_) #[true, true, true, true, true, false, false, false, false, false, false, false, false, false, false] rfl rfl (any_of HT_.out (by kernel_rfl)) (fun _ _ _ h => h) (Or.inl ⟨by rfl, ?_⟩) ?_ ?_
                          rotate_left
                          · intro w'
                            go_simp
                            with_reducible rfl
                          rotate_left
                          · simp only [Act.put, List.setIfInBounds_toArray, List.set_cons_zero, List.set_cons_succ, i64_w, i32_w]
                            rfl
                          refine pure_ (i := 6) (N := some 62) (v := ?_) (a' := ?_) #[true, true, true, true, true, false, true, false, false, false, false, false, false, false, false] rfl rfl (any_of HT_.out (by kernel_rfl)) (fun _ _ _ h => h) (Or.inl ⟨by rfl, ?_⟩) ?_ ?_
                          rotate_left
                          · intro w'
                            go_simp
                            with_reducible rfl
                          rotate_left
                          · simp only [Act.put, List.setIfInBounds_toArray, List.set_cons_zero, List.set_cons_succ, i64_w, i32_w]
                            rfl
                          refine pure_ (i := 7) (N := some 63) (v := ?_) (a' := ?_) #[true, true, true, true, true, false, true, true, false, false, false, false, false, false, false] rfl rfl (any_of HT_.out (by kernel_rfl)) (fun _ _ _ h => h) (Or.inl ⟨by rfl, ?_⟩) ?_ ?_
                          rotate_left
                          · intro w'
                            go_simp
                            with_reducible rfl
                          rotate_left
                          · simp only [Act.put, List.setIfInBounds_toArray, List.set_cons_zero, List.set_cons_succ, i64_w, i32_w]
                            rfl
                          refine take_ (i := 5) (N := some 61) (v := ?_) (a' := ?_) #[true, true, true, true, true, true, true, true, false, false, false, false, false, false, false] rfl rfl (take_ofW HT_.out HW_.out (by kernel_rfl)) (fun _ _ _ h => h) (Or.inl ⟨by rfl, ?_⟩) hHeld ?_ ?_
                          rotate_left
                          · rintro w' ⟨s0, s1⟩
                            go_simp
                            with_reducible rfl
                          rotate_left
                          · simp only [Act.put, List.setIfInBounds_toArray, List.set_cons_zero, List.set_cons_succ, i64_w, i32_w]
                            rfl
                          refine take_ (i := 8) (N := some 64) (v := ?_) (a' := ?_) #[true, true, true, true, true, true, true, true, true, false, false, false, false, false, false] rfl rfl (take_ofW HT_.out HW_.out (by kernel_rfl)) (fun _ _ _ h => h) (Or.inl ⟨by rfl, ?_⟩) hHeld ?_ ?_
                          rotate_left
                          · rintro w' ⟨s0, s1⟩
                            go_simp
                            with_reducible rfl
                          rotate_left
                          · simp only [Act.put, List.setIfInBounds_toArray, List.set_cons_zero, List.set_cons_succ, i64_w, i32_w]
                            rfl
                          refine pure_ (i := 9) (N := some 65) (v := ?_) (a' := ?_) #[true, true, true, true, true, true, true, true, true, true, false, false, false, false, false] rfl rfl (any_of HT_.out (by kernel_rfl)) (fun _ _ _ h => h) (Or.inl ⟨by rfl, ?_⟩) ?_ ?_
                          rotate_left
                          · intro w'
                            go_simp
                            with_reducible rfl
                          rotate_left
                          · simp only [Act.put, List.setIfInBounds_toArray, List.set_cons_zero, List.set_cons_succ, i64_w, i32_w]
                            rfl
                          refine pure_ (i := 10) (N := some 66) (v := ?_) (a' := ?_) #[true, true, true, true, true, true, true, true, true, true, true, false, false, false, false] rfl rfl (any_of HT_.out (by kernel_rfl)) (fun _ _ _ h => h) (Or.inl ⟨by rfl, ?_⟩) ?_ ?_
                          rotate_left
                          · intro w'
                            go_simp
                            with_reducible rfl
                          rotate_left
                          · simp only [Act.put, List.setIfInBounds_toArray, List.set_cons_zero, List.set_cons_succ, i64_w, i32_w]
                            rfl
                          refine pure_ (i := 11) (N := some 67) (v := ?_) (a' := ?_) #[true, true, true, true, true, true, true, true, true, true, true, true, false, false, false] rfl rfl (any_of HT_.out (by kernel_rfl)) (fun _ _ _ h => h) (Or.inl ⟨by rfl, ?_⟩) ?_ ?_
                          rotate_left
                          · intro w'
                            go_simp
                            with_reducible rfl
                          rotate_left
                          · simp only [Act.put, List.setIfInBounds_toArray, List.set_cons_zero, List.set_cons_succ, i64_w, i32_w]
                            rfl
                          refine pure_ (i := 12) (N := some 68) (v := ?_) (a' := ?_) #[true, true, true, true, true, true, true, true, true, true, true, true, true, false, false] rfl rfl (any_of HT_.out (by kernel_rfl)) (fun _ _ _ h => h) (Or.inl ⟨by rfl, ?_⟩) ?_ ?_
                          rotate_left
                          · intro w'
                            go_simp
                            with_reducible rfl
                          rotate_left
                          · simp only [Act.put, List.setIfInBounds_toArray, List.set_cons_zero, List.set_cons_succ, i64_w, i32_w]
                            rfl
                          refine pure_ (i := 13) (N := some 69) (v := ?_) (a' := ?_) #[true, true, true, true, true, true, true, true, true, true, true, true, true, true, false] rfl rfl (any_of HT_.out (by kernel_rfl)) (fun _ _ _ h => h) (Or.inl ⟨by rfl, ?_⟩) ?_ ?_
                          rotate_left
                          · intro w'
                            go_simp
                            with_reducible rfl
                          rotate_left
                          · simp only [Act.put, List.setIfInBounds_toArray, List.set_cons_zero, List.set_cons_succ, i64_w, i32_w]
                            rfl
                          refine last_ (i := 14) (N := none) #[true, true, true, true, true, true, true, true, true, true, true, true, true, true, true] rfl rfl (one_of HT_.out (by kernel_rfl)) (by decide) (fun K hK => ?_)
                          refine skip_ (w1 := ?_) (by rfl) rfl ?_ ?_
                          rotate_left
                          · go_simp
                            rfl
                          refine hK.out _ _ ?_
                          clear hK K
                          refine done_ (done_of HT_.out (by kernel_rfl)) ?_
                          try go_wp2_with (first | ((with_reducible refine gate_dst (N := 72) rfl ?_); refine valueL_ 72 rfl rfl (conv_bs _ gq20 y173.length cap20 y179 rfl rfl (by rw [Ny179.out, List.length_set]) (fun i_ hi_ => (HQ33.out i_ (by rw [Ny179.out, List.length_set]; exact hi_)).1)) ?_) | ((with_reducible refine gate_callee (f := 8) rfl ?_); refine goesL_ (some 73) rfl rfl Try.func8 (by kernel_rfl) rfl #[.string (strOfNums y179)] rfl (by (try simp only [List.map_toArray, List.map_cons, List.map_nil]); first | done | rfl | (simp only [List.length_drop, List.length_take]; rfl)) ?_; (with_reducible refine (impl_Unsealed.calls kj7 (strOfNums y179) t180 true _ A26.out).mono ?_); rintro e w35 ⟨rfl, hb⟩; refine ⟨_, rfl, ?_⟩; have n2_ := Aside0.mk (below_step (by repeat (first | (with_reducible first | exact HB.out | apply below_alloc | apply pw_below_drewN | apply below_drew1 | refine below_set ?_ GB25.out) | exact HB.out)) hb); clear HB; have HB := n2_; clear n2_; (try clear hb); (try clear hb2); (try clear hk); (try clear hi)))
                          go_ret
                          exact ⟨by first | rfl | (simp [errW_none, errW_some] <;> rfl) | (simp only [← hji21]; first | rfl | (simp [errW_none, errW_some] <;> rfl)) | (simp [*, errW_none, errW_some] <;> rfl), by repeat (first | (with_reducible first | exact HB.out | apply below_alloc | apply pw_below_drewN | apply below_drew1) | exact HB.out)⟩
                        · replace c27 := Bool.eq_false_iff.mpr c27
                          subst c27
                          have H1 : ((impl_SumOf.f kj7 t165).bind fun t182 => ((impl_SumMore.f kj7 t182 (⟨#[120]⟩ : ByteArray)).bind fun t183 => (if t165.size + 1 ≤ 9223372036854775807 then ((impl_SumOf.f kj7 (t165 ++ (⟨#[120]⟩ : ByteArray))).bind fun t184 => (some (t183 == t184))) else (none)))) = some r := by rw [if_neg (show ¬ (false = true) by decide)] at H; exact H
                          clear H
                          have H := H1
                          clear H1
                          replace H := Option.bind_eq_some_iff.mp H
                          obtain ⟨t182, A360, H⟩ := H
                          replace H : ((impl_SumMore.f kj7 t182 (⟨#[120]⟩ : ByteArray)).bind fun t183 => (if t165.size + 1 ≤ 9223372036854775807 then ((impl_SumOf.f kj7 (t165 ++ (⟨#[120]⟩ : ByteArray))).bind fun t184 => (some (t183 == t184))) else (none))) = some r := H
                          have A36 := Aside0.mk A360
                          clear A360
                          replace H := Option.bind_eq_some_iff.mp H
                          obtain ⟨t183, A370, H⟩ := H
                          replace H : (if t165.size + 1 ≤ 9223372036854775807 then ((impl_SumOf.f kj7 (t165 ++ (⟨#[120]⟩ : ByteArray))).bind fun t184 => (some (t183 == t184))) else (none)) = some r := H
                          have A37 := Aside0.mk A370
                          clear A370
                          by_cases c38 : t165.size + 1 ≤ 9223372036854775807
                          · rw [if_pos c38] at H
                            have c38b0 := eq_true c38
                            have c38b1 : decide (t165.size + 1 ≤ 9223372036854775807) = true := decide_eq_true c38
                            try have c38b2 : (9223372036854775807 < t165.size + 1) = False := eq_false (Nat.not_lt.2 c38)
                            replace H := Option.bind_eq_some_iff.mp H
                            obtain ⟨t184, A390, H⟩ := H
                            replace H : (some (t183 == t184)) = some r := H
                            have A39 := Aside0.mk A390
                            clear A390
                            obtain rfl := Option.some.inj H
                            try go_wp2_with (first | ((with_reducible refine gate_dst (N := 49) rfl ?_); refine turn_step (t := t169) (p := t166) (w := w) (l := y173) Ny173.out rfl rfl rfl rfl (by repeat (first | (with_reducible first | exact HB.out | apply below_alloc | apply pw_below_drewN | apply below_drew1) | exact HB.out)) (by (with_reducible repeat (first | apply Kd.R_alloc | apply Kd.R_drewN | apply Kd.R_drew)); exact HO_4.out) ?_; intro w40 gq20 cap20 hb20 HG20 HR20; clear HO_4; clear HB; have HO_4 := Aside0.mk hb20.1; have HB := Aside0.mk hb20.2; have HO175 := Aside0.mk HR20; clear hb20 HR20; obtain ⟨Ao42, co42, eo42⟩ := Kd.R_slice HO_4.out; subst eo42; have p176 : 0 ≤ (0 : Int) := (by omega); have q176 : 0 < (t166.length : Int) := of_decide_eq_true (by first | (with_reducible assumption) | assumption); obtain ⟨ad176, e176, hx176_0⟩ := Kd.at_int (Kd.R_reads' HO_4.out).2.2 0 p176 q176; cases e176; have qi176 : (0 < t166.length) = True := eq_true (by omega); (try rw [show ((0 : Int)).toNat = 0 from rfl] at hx176_0); (try rw [Addr.add_zero'] at hx176_0); replace p176 := eq_true p176; replace q176 := eq_true q176))
                            have n0_ := Aside0.mk (Kd.R_drew HO_4.out)
                            have n1_ := Aside0.mk (Br.drew HO175.out)
                            have n2_ := Aside0.mk (below_drew1 HB.out)
                            clear HO_4
                            clear HO175
                            clear HB
                            have HO_4 := n0_
                            have HO175 := n1_
                            have HB := n2_
                            clear n0_ n1_ n2_
                            have p177 : 0 ≤ ((ji21) : Int) := of_decide_eq_true (by first | (with_reducible assumption) | assumption)
                            have q177 : (ji21) < (y173.length : Int) := of_decide_eq_true (by first | (with_reducible assumption) | assumption)
                            have hx177_0 := Br.cell HO175.out (ji21) p177 q177
                            replace p177 := eq_true p177
                            replace q177 := eq_true q177
                            have p178 : 0 ≤ (1 : Int) := (by omega)
                            have q178 : 1 < (t166.length : Int) := of_decide_eq_true (by first | (with_reducible assumption) | assumption)
                            obtain ⟨ad178, e178, hx178_0⟩ := Kd.at_int (Kd.R_reads' HO_4.out).2.2 1 p178 q178
                            obtain rfl : ad176 = ad178 := (by injection e178)
                            (try simp only [show (1 : Int).toNat = 1 from rfl, Nat.reduceMul, Nat.reduceEqDiff, Go.Addr.add, ↓reduceIte] at hx178_0)
                            have qi178 : (1 < t166.length) = True := eq_true (by omega)
                            (try rw [show ((1 : Int)).toNat = 1 from rfl] at hx178_0)
                            replace p178 := eq_true p178
                            replace q178 := eq_true q178
                            have p25 : 0 ≤ ((ji21) : Int) := of_decide_eq_true (by first | (with_reducible assumption) | assumption)
                            have q25 : ((ji21) : Int) < ((y173.length : Int) : Int) := of_decide_eq_true (by first | (with_reducible assumption) | assumption)
                            have GB25 := HG20
                            have hx25_0 := Br.cell HO175.out (ji21) p25 q25
                            have hf25_0 := Br.frozen HO175.out (ji21) p25 q25
                            replace p25 := eq_true p25
                            replace q25 := eq_true q25
                            have HP45 := Br.put HO175.out ((ji21) : Int) (Go.bits .xor .u8 (rd y173 (ji21)) ((wrap64 (1 + (Int.tmod (rd t166 1) 255))) % 256))
                            rw [← Ny179.out] at HP45
                            have HQ45 := Aside0.mk HP45
                            clear HP45
                            refine start_ (n := 15) (S := fun w' => w'.cell? ⟨gq20, ((ji21)).toNat, none⟩ = some (.int .u8 (rd y173 (ji21))) ∧ w'.cell? ⟨ad176.block, ad176.off + 1, none⟩ = some (.int .i64 (rd t166 1))) (ds := [14]) #[false, false, false, false, false, false, false, false, false, false, false, false, false, false, false] (by kernel_rfl) rfl rfl ⟨hx177_0, hx178_0⟩ (fun hHeld => ?_); refine with_tabW laws_FnTurned.tab11 laws_FnTurned.bits11 (fun HT_ HW_ => ?_)
                            generalize w40.drew = w44 at HO_4 HO175 HB HQ45 hf25_0 hx177_0 hx178_0 hx25_0 hHeld ⊢
                            refine pure_ (i := 0) (N := some 56) (v := ?_) (a' := ?_) #[true, false, false, false, false, false, false, false, false, false, false, false, false, false, false] rfl rfl (any_of HT_.out (by kernel_rfl)) (fun _ _ _ h => h) (Or.inl ⟨by rfl, ?_⟩) ?_ ?_
                            rotate_left
                            · intro w'
                              go_simp
                              with_reducible rfl
                            rotate_left
                            · simp only [Act.put, List.setIfInBounds_toArray, List.set_cons_zero, List.set_cons_succ, i64_w, i32_w]
                              rfl
                            refine pure_ (i := 1) (N := some 57) (v := ?_) (a' := ?_) #[true, true, false, false, false, false, false, false, false, false, false, false, false, false, false] rfl rfl (any_of HT_.out (by kernel_rfl)) (fun _ _ _ h => h) (Or.inl ⟨by rfl, ?_⟩) ?_ ?_
                            rotate_left
                            · intro w'
                              go_simp
                              with_reducible rfl
                            rotate_left
                            · simp only [Act.put, List.setIfInBounds_toArray, List.set_cons_zero, List.set_cons_succ, i64_w, i32_w]
                              rfl
                            refine pure_ (i := 2) (N := some 58) (v := ?_) (a' := ?_) #[true, true, true, false, false, false, false, false, false, false, false, false, false, false, false] rfl rfl (any_of HT_.out (by kernel_rfl)) (fun _ _ _ h => h) (Or.inl ⟨by rfl, ?_⟩) ?_ ?_
                            rotate_left
                            · intro w'
                              go_simp
                              with_reducible rfl
                            rotate_left
                            · simp only [Act.put, List.setIfInBounds_toArray, List.set_cons_zero, List.set_cons_succ, i64_w, i32_w]
                              rfl
                            refine pure_ (i := 3) (N := some 59) (v := ?_) (a' := ?_) #[true, true, true, true, false, false, false, false, false, false, false, false, false, false, false] rfl rfl (any_of HT_.out (by kernel_rfl)) (fun _ _ _ h => h) (Or.inl ⟨by rfl, ?_⟩) ?_ ?_
                            rotate_left
                            · intro w'
                              go_simp
                              with_reducible rfl
                            rotate_left
                            · simp only [Act.put, List.setIfInBounds_toArray, List.set_cons_zero, List.set_cons_succ, i64_w, i32_w]
                              rfl
                            refine pure_ (i := 4) (N := some 60) (v := ?_) (a' := ?_) #[true, true, true, true, true, false, false, false, false, false, false, false, false, false, false] rfl rfl (any_of HT_.out (by kernel_rfl)) (fun _ _ _ h => h) (Or.inl ⟨by rfl, ?_⟩) ?_ ?_
                            rotate_left
                            · intro w'
                              go_simp
                              with_reducible rfl
                            rotate_left
                            · simp only [Act.put, List.setIfInBounds_toArray, List.set_cons_zero, List.set_cons_succ, i64_w, i32_w]
                              rfl
                            refine pure_ (i := 6) (N := some 62) (v := ?_) (a' := ?_) #[true, true, true, true, true, false, true, false, false, false, false, false, false, false, false] rfl rfl (any_of HT_.out (by kernel_rfl)) (fun _ _ _ h => h) (Or.inl ⟨by rfl, ?_⟩) ?_ ?_
                            rotate_left
                            · intro w'
                              go_simp
                              with_reducible rfl
                            rotate_left
                            · simp only [Act.put, List.setIfInBounds_toArray, List.set_cons_zero, List.set_cons_succ, i64_w, i32_w]
                              rfl
                            refine pure_ (i := 7) (N := some 63) (v := ?_) (a' := ?_) #[true, true, true, true, true, false, true, true, false, false, false, false, false, false, false] rfl rfl (any_of HT_.out (by kernel_rfl)) (fun _ _ _ h => h) (Or.inl ⟨by rfl, ?_⟩) ?_ ?_
                            rotate_left
                            · intro w'
                              go_simp
                              with_reducible rfl
                            rotate_left
                            · simp only [Act.put, List.setIfInBounds_toArray, List.set_cons_zero, List.set_cons_succ, i64_w, i32_w]
                              rfl
                            refine take_ (i := 5) (N := some 61) (v := ?_) (a' := ?_) #[true, true, true, true, true, true, true, true, false, false, false, false, false, false, false] rfl rfl (take_ofW HT_.out HW_.out (by kernel_rfl)) (fun _ _ _ h => h) (Or.inl ⟨by rfl, ?_⟩) hHeld ?_ ?_
                            rotate_left
                            · rintro w' ⟨s0, s1⟩
                              go_simp
                              with_reducible rfl
                            rotate_left
                            · simp only [Act.put, List.setIfInBounds_toArray, List.set_cons_zero, List.set_cons_succ, i64_w, i32_w]
                              rfl
                            refine take_ (i := 8) (N := some 64) (v := ?_) (a' := ?_) #[true, true, true, true, true, true, true, true, true, false, false, false, false, false, false] rfl rfl (take_ofW HT_.out HW_.out (by kernel_rfl)) (fun _ _ _ h => h) (Or.inl ⟨by rfl, ?_⟩) hHeld ?_ ?_
                            rotate_left
                            · rintro w' ⟨s0, s1⟩
                              go_simp
                              with_reducible rfl
                            rotate_left
                            · simp only [Act.put, List.setIfInBounds_toArray, List.set_cons_zero, List.set_cons_succ, i64_w, i32_w]
                              rfl
                            refine pure_ (i := 9) (N := some 65) (v := ?_) (a' := ?_) #[true, true, true, true, true, true, true, true, true, true, false, false, false, false, false] rfl rfl (any_of HT_.out (by kernel_rfl)) (fun _ _ _ h => h) (Or.inl ⟨by rfl, ?_⟩) ?_ ?_
                            rotate_left
                            · intro w'
                              go_simp
                              with_reducible rfl
                            rotate_left
                            · simp only [Act.put, List.setIfInBounds_toArray, List.set_cons_zero, List.set_cons_succ, i64_w, i32_w]
                              rfl
                            refine pure_ (i := 10) (N := some 66) (v := ?_) (a' := ?_) #[true, true, true, true, true, true, true, true, true, true, true, false, false, false, false] rfl rfl (any_of HT_.out (by kernel_rfl)) (fun _ _ _ h => h) (Or.inl ⟨by rfl, ?_⟩) ?_ ?_
                            rotate_left
                            · intro w'
                              go_simp
                              with_reducible rfl
                            rotate_left
                            · simp only [Act.put, List.setIfInBounds_toArray, List.set_cons_zero, List.set_cons_succ, i64_w, i32_w]
                              rfl
                            refine pure_ (i := 11) (N := some 67) (v := ?_) (a' := ?_) #[true, true, true, true, true, true, true, true, true, true, true, true, false, false, false] rfl rfl (any_of HT_.out (by kernel_rfl)) (fun _ _ _ h => h) (Or.inl ⟨by rfl, ?_⟩) ?_ ?_
                            rotate_left
                            · intro w'
                              go_simp
                              with_reducible rfl
                            rotate_left
                            · simp only [Act.put, List.setIfInBounds_toArray, List.set_cons_zero, List.set_cons_succ, i64_w, i32_w]
                              rfl
                            refine pure_ (i := 12) (N := some 68) (v := ?_) (a' := ?_) #[true, true, true, true, true, true, true, true, true, true, true, true, true, false, false] rfl rfl (any_of HT_.out (by kernel_rfl)) (fun _ _ _ h => h) (Or.inl ⟨by rfl, ?_⟩) ?_ ?_
                            rotate_left
                            · intro w'
                              go_simp
                              with_reducible rfl
                            rotate_left
                            · simp only [Act.put, List.setIfInBounds_toArray, List.set_cons_zero, List.set_cons_succ, i64_w, i32_w]
                              rfl
                            refine pure_ (i := 13) (N := some 69) (v := ?_) (a' := ?_) #[true, true, true, true, true, true, true, true, true, true, true, true, true, true, false] rfl rfl (any_of HT_.out (by kernel_rfl)) (fun _ _ _ h => h) (Or.inl ⟨by rfl, ?_⟩) ?_ ?_
                            rotate_left
                            · intro w'
                              go_simp
                              with_reducible rfl
                            rotate_left
                            · simp only [Act.put, List.setIfInBounds_toArray, List.set_cons_zero, List.set_cons_succ, i64_w, i32_w]
                              rfl
                            refine last_ (i := 14) (N := none) #[true, true, true, true, true, true, true, true, true, true, true, true, true, true, true] rfl rfl (one_of HT_.out (by kernel_rfl)) (by decide) (fun K hK => ?_)
                            refine skip_ (w1 := ?_) (by rfl) rfl ?_ ?_
                            rotate_left
                            · go_simp
                              rfl
                            refine hK.out _ _ ?_
                            clear hK K
                            refine done_ (done_of HT_.out (by kernel_rfl)) ?_
                            try go_wp2_with (first | ((with_reducible refine gate_dst (N := 72) rfl ?_); refine valueL_ 72 rfl rfl (conv_bs _ gq20 y173.length cap20 y179 rfl rfl (by rw [Ny179.out, List.length_set]) (fun i_ hi_ => (HQ45.out i_ (by rw [Ny179.out, List.length_set]; exact hi_)).1)) ?_) | ((with_reducible refine gate_callee (f := 8) rfl ?_); refine goesL_ (some 73) rfl rfl Try.func8 (by kernel_rfl) rfl #[.string (strOfNums y179)] rfl (by (try simp only [List.map_toArray, List.map_cons, List.map_nil]); first | done | rfl | (simp only [List.length_drop, List.length_take]; rfl)) ?_; (with_reducible refine (impl_Unsealed.calls kj7 (strOfNums y179) t180 false _ A26.out).mono ?_); rintro e w47 ⟨rfl, hb⟩; refine ⟨_, rfl, ?_⟩; have n2_ := Aside0.mk (below_step (by repeat (first | (with_reducible first | exact HB.out | apply below_alloc | apply pw_below_drewN | apply below_drew1 | refine below_set ?_ GB25.out) | exact HB.out)) hb); clear HB; have HB := n2_; clear n2_; (try clear hb); (try clear hb2); (try clear hk); (try clear hi)) | (go_at_call 10; (with_reducible refine (impl_SumOf.calls kj7 t165 t182 _ A36.out).mono ?_); rintro e w' ⟨rfl, ⟨nd, rfl⟩⟩) | (go_at_call 9; (with_reducible refine (impl_SumMore.calls kj7 t182 (⟨#[120]⟩ : ByteArray) t183 _ A37.out).mono ?_); rintro e w' ⟨rfl, ⟨nd, rfl⟩⟩) | (go_at_call 10; (with_reducible refine (impl_SumOf.calls kj7 (t165 ++ (⟨#[120]⟩ : ByteArray)) t184 _ A39.out).mono ?_); rintro e w' ⟨rfl, ⟨nd, rfl⟩⟩))
                            go_ret
                            exact ⟨by first | rfl | (simp [errW_none, errW_some] <;> rfl) | (simp only [← hji21]; first | rfl | (simp [errW_none, errW_some] <;> rfl)) | (simp [*, errW_none, errW_some] <;> rfl), by repeat (first | (with_reducible first | exact HB.out | apply below_alloc | apply pw_below_drewN | apply below_drew1) | exact HB.out)⟩
                          · rw [if_neg c38] at H
                            exact absurd H (by simp)
                      · rw [if_neg c24] at H
                        exact absurd H (by simp)
                    · rw [if_neg c23] at H
                      exact absurd H (by simp)
                  · rw [if_neg c22] at H
                    exact absurd H (by simp)
              · rw [if_neg c19] at H
                exact absurd H (by simp)
            · rw [if_neg c18] at H
              exact absurd H (by simp)
          · rw [if_neg c17] at H
            exact absurd H (by simp)

/-- THE ONE PURE STATEMENT of laws_FnTurned: yours. -/
def laws_FnTurned.Pure : Prop := ∀ (l0 : List Int), l0.length ≤ maxLen → l0.length * 1 ≤ 140737488351232 → (∀ x ∈ l0, (Lit.int .u8 x).wf = true) → ∃ k, laws_FnTurned.f k l0 = some true
theorem laws_FnTurned.walk (P : laws_FnTurned.Pure) (a0 : Option Addr) (len0 cap0 : Nat) (z0 : List Int) (w : World) (w0 : (a0 = none ∧ len0 = 0 ∧ cap0 = 0 ∧ z0 = []) ∨ ∃ x, a0 = some x ∧ len0 ≤ cap0 ∧ cap0 ≤ maxLen ∧ z0.length = cap0 ∧ (∀ i, i < z0.length → w.cell? (x.add i) = some (.int .u8 (z0.getD i 0))) ∧ ∀ n ∈ z0, (Lit.int .u8 n).wf = true) (y0 : len0 * 1 ≤ 140737488351232) :
    Calls Try.prog 3 #[.slice a0 len0 cap0] w fun e w' => e = .returned (.bool true) ∧ Below w.heap.size w w' := by
  obtain ⟨l0, rfl, hr0, hm0, hw0, hc0⟩ := ReadsInt.ofRowC w0
  obtain ⟨k, h⟩ := P l0 hm0 y0 hw0
  refine (laws_FnTurned.calls k _ _ l0 true w (Kd.C_of_reads (d := (0 : Int)) (h1 := fun _ => rfl) hr0) hc0 h).mono ?_
  rintro e w' ⟨rfl, hd⟩
  exact ⟨rfl, hd⟩

end Go.Proofs.Ytenhjngddagghaa.PFnTurned
