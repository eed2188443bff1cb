/- LoadCell of the program answers as the reference's LoadCell, for every arena, region and place (the law itself answers true of an arena of more than 2^20 cells). -/
import Derived.Test.YtimeeohggjagfaaPFnExactLoadCellx0
import Derived.Test.YtimeeohggjagfaaPFnExactLoadCellx1
import Derived.Test.YtimeeohggjagfaaPFnExactLoadCellx2
namespace Go.Proofs.Ytimeeohggjagfaa.Pure
open Go.RowKit Go.Proofs.Ytimeeohggjagfaa.PFnExactLoadCell Go.Proofs.YtimeeohggjagfaaW.PrintWords Go.Proofs.YtimeeohggjagfaaW.PrintLast
set_option linter.unusedVariables false
set_option linter.unusedSimpArgs false

/-! ### base -/
theorem c_wrap {n : Int} (h0 : -9223372036854775808 ≤ n) (h1 : n ≤ 9223372036854775807) : wrap64 n = n := by unfold wrap64; omega
theorem c_wf {n : Int} (h : (Lit.int .i64 n).wf = true) : -9223372036854775808 ≤ n ∧ n ≤ 9223372036854775807 := by
  simpa [Lit.wf, IntKind.min, IntKind.max, IntKind.signed, IntKind.bits] using h
theorem c_wf32 {n : Int} (h : (Lit.int .u32 n).wf = true) : 0 ≤ n ∧ n ≤ 4294967295 := by
  simpa [Lit.wf, IntKind.min, IntKind.max, IntKind.signed, IntKind.bits] using h
theorem c_up {k : Nat} (h : 0 < k) : ∃ m, k = m + 1 := ⟨k - 1, by omega⟩

/-! ### ints -/
theorem c_rd {l : List Int} {i : Nat} (h : i < l.length) : rd l (i : Int) = l[i]'h := by
  unfold rd
  simp [h]
theorem c_rd_app (pre : List Int) (a : Int) (l : List Int) : rd (pre ++ a :: l) (pre.length : Int) = a := by
  unfold rd
  simp
theorem c_inc {i n : Nat} (h : i < n) (hn : n ≤ 9223372036854775807) : wrap64 ((i : Int) + 1) = ((i + 1 : Nat) : Int) := by rw [c_wrap (by omega) (by omega)]; omega

/-! ### within -/
def c_in (n l h : Int) : Bool := decide (l ≤ n) && decide (n ≤ h)
theorem c_in_iff {n l h : Int} : c_in n l h = true ↔ l ≤ n ∧ n ≤ h := by simp [c_in]
theorem c_in_no {n l h : Int} : ¬ c_in n l h = true ↔ n < l ∨ h < n := by rw [c_in_iff]; omega

/-! ### within_s -/
theorem c_l01In (n l h : Int) : spec_l01In.f n l h = some (c_in n l h) := by
  unfold spec_l01In.f c_in
  by_cases h0 : n ≥ l
  · rw [if_pos h0]; simp [h0]
  · rw [if_neg h0]; simp; omega

/-! ### cellat -/
def c_at (n : Nat) (f z p : Int) : Int := if 0 ≤ p ∧ p < z ∧ 0 ≤ f ∧ p < (n : Int) - f then f + p else -1
theorem c_at_lt {n : Nat} {f z p : Int} : -1 ≤ c_at n f z p ∧ c_at n f z p < n := by unfold c_at; split <;> omega
theorem c_cellAt (l : List Int) (hl : l.length ≤ 9223372036854775807) (f z p : Int) (hf : f ≤ 9223372036854775807) : impl_cellAt.f l f z p = some (c_at l.length f z p) := by
  unfold impl_cellAt.f c_at
  by_cases h1 : f < 0
  · rw [if_pos h1, if_neg (by omega)]
  · rw [if_neg h1]
    by_cases h2 : p < 0
    · rw [if_pos h2, if_neg (by omega)]
    · rw [if_neg h2]
      by_cases h3 : p ≥ z
      · rw [if_pos h3, if_neg (by omega)]
      · rw [if_neg h3, c_wrap (n := (l.length : Int) - f) (by omega) (by omega)]
        by_cases h4 : p ≥ (l.length : Int) - f
        · rw [if_pos h4, if_neg (by omega)]
        · rw [if_neg h4, if_pos (by omega), c_wrap (by omega) (by omega)]
theorem c_l04At (l : List Int) (hl : l.length ≤ 9223372036854775807) (f z p : Int) (hf : f ≤ 9223372036854775807) : spec_l04At.f l f z p = some (c_at l.length f z p) := by
  unfold spec_l04At.f c_at
  by_cases h2 : p < 0
  · rw [if_pos h2, if_neg (by omega)]
  · rw [if_neg h2]
    by_cases h3 : p ≥ z
    · rw [if_pos h3, if_neg (by omega)]
    · rw [if_neg h3, c_l01In, c_wrap (n := (l.length : Int) - 1) (by omega) (by omega)]
      simp only [Option.bind_some]
      by_cases h1 : c_in f 0 ((l.length : Int) - 1) = true
      · rw [if_pos h1]
        rw [c_in_iff] at h1
        rw [c_wrap (n := (l.length : Int) - f) (by omega) (by omega)]
        by_cases h4 : p ≥ (l.length : Int) - f
        · rw [if_pos h4, if_neg (by omega)]
        · rw [if_neg h4, if_pos (by omega), c_wrap (by omega) (by omega)]
      · rw [if_neg h1]
        rw [c_in_no] at h1
        rw [if_neg (by omega)]

/-! ### loadcell -/
def c_load (l : List Int) (f z p : Int) : Int × Bool := if c_at l.length f z p < 0 then (0, false) else (rd l (c_at l.length f z p), true)
theorem c_LoadCell_impl (l : List Int) (hl : l.length ≤ 9223372036854775807) (f z p : Int) (hf : f ≤ 9223372036854775807) : impl_LoadCell.f l f z p = some (c_load l f z p) := by
  unfold impl_LoadCell.f c_load
  rw [c_cellAt l hl f z p hf]
  simp only [Option.bind_some]
  obtain ⟨h0, h1⟩ := c_at_lt (n := l.length) (f := f) (z := z) (p := p)
  by_cases h : c_at l.length f z p < 0
  · rw [if_pos h, if_pos h]
  · rw [if_neg h, if_neg h, if_pos (by omega), if_pos (by omega)]
theorem c_LoadCell_spec (l : List Int) (hl : l.length ≤ 9223372036854775807) (f z p : Int) (hf : f ≤ 9223372036854775807) : spec_LoadCell.f l f z p = some (c_load l f z p) := by
  unfold spec_LoadCell.f c_load
  rw [c_l04At l hl f z p hf]
  simp only [Option.bind_some]
  obtain ⟨h0, h1⟩ := c_at_lt (n := l.length) (f := f) (z := z) (p := p)
  by_cases h : c_at l.length f z p < 0
  · rw [if_pos h, if_pos h]
  · rw [if_neg h, if_neg h, if_pos (by omega), if_pos (by omega)]

/-! ### toints -/
theorem c_szInts (l : List Int) (hl : l.length ≤ 9223372036854775807) : laws_szIntS.f l 1048576 = some (if l.length > 1048576 then -1 else 1048576 - (l.length : Int)) := by
  unfold laws_szIntS.f
  rw [c_wrap (by omega) (by omega)]
  by_cases h : l.length > 1048576
  · rw [if_pos (by omega), if_pos h]
  · rw [if_neg (by omega), if_neg h]
theorem c_szArena (l : List Int) (hl : l.length ≤ 9223372036854775807) : laws_szArena.f l 1048576 = some (if l.length > 1048576 then -1 else 1048576 - (l.length : Int)) := by
  unfold laws_szArena.f
  rw [c_szInts l hl]
  simp only [Option.bind_some]
  by_cases h : l.length > 1048576
  · rw [if_pos h, if_pos (by omega)]
  · rw [if_neg h, if_neg (by omega)]
theorem c_toInts_l (rest : List Int) : ∀ (k : Nat) (pre : List Int), pre.length + rest.length ≤ 9223372036854775807 → rest.length < k → laws_toIntS.l0 k (pre ++ rest) (pre ++ List.replicate rest.length 0) (pre.length : Int) = some (pre ++ rest) := by
  induction rest with
  | nil =>
    intro k pre hb hk
    obtain ⟨k, rfl⟩ := c_up (k := k) (by omega)
    rw [laws_toIntS.l0, if_neg (by simp)]
    simp
  | cons a rest ih =>
    intro k pre hb hk
    rw [List.length_cons] at hb hk
    obtain ⟨k, rfl⟩ := c_up (k := k) (by omega)
    have hset : (pre ++ List.replicate (a :: rest).length 0).set ((pre.length : Int)).toNat a = (pre ++ [a]) ++ List.replicate rest.length 0 := by
      rw [Int.toNat_natCast, List.set_append_right _ _ (by simp), Nat.sub_self, List.length_cons, List.replicate_succ, List.set_cons_zero, List.append_assoc]
      rfl
    have hw := Aside0.mk (c_inc (i := pre.length) (n := pre.length + 1) (by omega) (by omega))
    have := ih k (pre ++ [a]) (by rw [List.length_append, List.length_singleton]; omega) (by omega)
    rw [List.length_append, List.length_singleton, List.append_assoc pre [a] rest] at this
    rw [laws_toIntS.l0, if_pos (by rw [List.length_append, List.length_cons]; omega), if_pos (by omega), if_pos (by rw [List.length_append, List.length_replicate, List.length_cons]; omega), c_rd_app, hset, hw.out]
    exact this
theorem c_toInts (l : List Int) (hl : l.length ≤ 1048576) (k : Nat) (hk : l.length < k) : laws_toIntS.f k l = some l := by
  unfold laws_toIntS.f
  rw [if_pos (by omega), if_pos (by omega), Int.toNat_natCast]
  exact c_toInts_l l k [] (by simp; omega) hk
theorem c_toArena (l : List Int) (hl : l.length ≤ 1048576) (k : Nat) (hk : l.length < k) : laws_toArena.f k l = some l := by
  unfold laws_toArena.f
  rw [c_toInts l hl k hk]
  rfl

/-! ### eqints -/
theorem c_eqInts_l (l : List Int) (hl : l.length ≤ 9223372036854775807) (d : Nat) : ∀ (k i : Nat), l.length - i = d → i ≤ l.length → d < k → laws_eqIntS.l0 k l l i = some true := by
  induction d with
  | zero =>
    intro k i hd hi hk
    obtain ⟨k, rfl⟩ := c_up (k := k) (by omega)
    rw [laws_eqIntS.l0, if_neg (by omega)]
  | succ d ih =>
    intro k i hd hi hk
    obtain ⟨k, rfl⟩ := c_up (k := k) (by omega)
    rw [laws_eqIntS.l0, if_pos (by omega), if_pos (by omega), if_pos (by omega), if_pos rfl, c_inc (n := l.length) (by omega) hl]
    exact ih k (i + 1) (by omega) (by omega) (by omega)
theorem c_eqInts (l : List Int) (hl : l.length ≤ 9223372036854775807) (k : Nat) (hk : l.length < k) : laws_eqIntS.f k l l = some true := by
  unfold laws_eqIntS.f
  rw [if_pos rfl]
  exact c_eqInts_l l hl l.length k 0 (by omega) (by omega) hk

/-! ### markints -/
def c_seq (m : Int) (n : Nat) : List Int := (List.range n).map fun (i : Nat) => m + (i : Int)
theorem c_seq_len (m : Int) (n : Nat) : (c_seq m n).length = n := by simp [c_seq]
theorem c_seq_succ (m : Int) (n : Nat) : c_seq m (n + 1) = c_seq m n ++ [m + (n : Int)] := by simp [c_seq, List.range_succ]

/-! ### arenaeq -/
theorem c_eqArena (l : List Int) (hl : l.length ≤ 9223372036854775807) (k : Nat) (hk : l.length < k) : laws_eqArena.f k l l = some true := by
  unfold laws_eqArena.f
  rw [c_eqInts l hl k hk]
  rfl

/-! ### the law -/
theorem FnExactLoadCell (l : List Int) (hl : l.length ≤ maxLen) (_ : ∀ x ∈ l, (Lit.int .i64 x).wf = true) (f : Int) (hf : (Lit.int .i64 f).wf = true) (z : Int) (_ : (Lit.int .i64 z).wf = true) (p : Int) (_ : (Lit.int .i64 p).wf = true) : ∃ k, laws_FnExactLoadCell.f k l f z p = some true := by
  unfold maxLen at hl
  have hf := c_wf hf
  refine ⟨l.length + 2, ?_⟩
  unfold laws_FnExactLoadCell.f
  rw [c_szArena l hl]
  simp only [Option.bind_some]
  by_cases h : l.length > 1048576
  · rw [if_pos h, if_pos (by omega)]
  · rw [if_neg h, if_neg (by omega), c_toArena l (by omega) _ (by omega)]
    simp only [Option.bind_some, laws_toRegion.f]
    rw [c_LoadCell_spec l hl f z p hf.2, c_LoadCell_impl l hl f z p hf.2]
    simp only [Option.bind_some, if_true, bne_self_eq_false]
    rw [laws_FnExactLoadCell.j0, if_neg (by decide), c_toArena l (by omega) _ (by omega)]
    simp only [Option.bind_some]
    rw [c_eqArena l hl _ (by omega)]
    simp

end Go.Proofs.Ytimeeohggjagfaa.Pure
