/- ClearCells of the program answers as the reference's ClearCells, in memory of its own, for every arena and region (the law itself answers true of an arena of more than 2^20 cells). -/
import Derived.Test.YtimeeohggjagfaaMFnExactClearCellsx0
import Derived.Test.YtimeeohggjagfaaMFnExactClearCellsx1
import Derived.Test.YtimeeohggjagfaaMFnExactClearCellsx2
import Derived.Test.YtimeeohggjagfaaMFnExactClearCellsx3
namespace Go.Proofs.Ytimeeohggjagfaa.Pure
open Go.RowKit Go.Proofs.Ytimeeohggjagfaa.PFnExactClearCells Go.Proofs.YtimeeohggjagfaaW.PrintWords Go.Proofs.YtimeeohggjagfaaW.PrintLast
set_option linter.unusedVariables false
set_option linter.unusedSimpArgs false

/-! ### base -/
theorem c_wrap {n : Int} (h0 : -9223372036854775808 ≤ n) (h1 : n ≤ 9223372036854775807) : wrap64 n = n := by unfold wrap64; omega
theorem c_wf {n : Int} (h : (Lit.int .i64 n).wf = true) : -9223372036854775808 ≤ n ∧ n ≤ 9223372036854775807 := by
  simpa [Lit.wf, IntKind.min, IntKind.max, IntKind.signed, IntKind.bits] using h
theorem c_wf32 {n : Int} (h : (Lit.int .u32 n).wf = true) : 0 ≤ n ∧ n ≤ 4294967295 := by
  simpa [Lit.wf, IntKind.min, IntKind.max, IntKind.signed, IntKind.bits] using h
theorem c_up {k : Nat} (h : 0 < k) : ∃ m, k = m + 1 := ⟨k - 1, by omega⟩

/-! ### ints -/
theorem c_rd {l : List Int} {i : Nat} (h : i < l.length) : rd l (i : Int) = l[i]'h := by
  unfold rd
  simp [h]
theorem c_rd_app (pre : List Int) (a : Int) (l : List Int) : rd (pre ++ a :: l) (pre.length : Int) = a := by
  unfold rd
  simp
theorem c_inc {i n : Nat} (h : i < n) (hn : n ≤ 9223372036854775807) : wrap64 ((i : Int) + 1) = ((i + 1 : Nat) : Int) := by rw [c_wrap (by omega) (by omega)]; omega

/-! ### within -/
def c_in (n l h : Int) : Bool := decide (l ≤ n) && decide (n ≤ h)
theorem c_in_iff {n l h : Int} : c_in n l h = true ↔ l ≤ n ∧ n ≤ h := by simp [c_in]
theorem c_in_no {n l h : Int} : ¬ c_in n l h = true ↔ n < l ∨ h < n := by rw [c_in_iff]; omega

/-! ### within_s -/
theorem c_l01In (n l h : Int) : spec_l01In.f n l h = some (c_in n l h) := by
  unfold spec_l01In.f c_in
  by_cases h0 : n ≥ l
  · rw [if_pos h0]; simp [h0]
  · rw [if_neg h0]; simp; omega

/-! ### cellat -/
def c_at (n : Nat) (f z p : Int) : Int := if 0 ≤ p ∧ p < z ∧ 0 ≤ f ∧ p < (n : Int) - f then f + p else -1
theorem c_at_lt {n : Nat} {f z p : Int} : -1 ≤ c_at n f z p ∧ c_at n f z p < n := by unfold c_at; split <;> omega
theorem c_cellAt (l : List Int) (hl : l.length ≤ 9223372036854775807) (f z p : Int) (hf : f ≤ 9223372036854775807) : impl_cellAt.f l f z p = some (c_at l.length f z p) := by
  unfold impl_cellAt.f c_at
  by_cases h1 : f < 0
  · rw [if_pos h1, if_neg (by omega)]
  · rw [if_neg h1]
    by_cases h2 : p < 0
    · rw [if_pos h2, if_neg (by omega)]
    · rw [if_neg h2]
      by_cases h3 : p ≥ z
      · rw [if_pos h3, if_neg (by omega)]
      · rw [if_neg h3, c_wrap (n := (l.length : Int) - f) (by omega) (by omega)]
        by_cases h4 : p ≥ (l.length : Int) - f
        · rw [if_pos h4, if_neg (by omega)]
        · rw [if_neg h4, if_pos (by omega), c_wrap (by omega) (by omega)]
theorem c_l04At (l : List Int) (hl : l.length ≤ 9223372036854775807) (f z p : Int) (hf : f ≤ 9223372036854775807) : spec_l04At.f l f z p = some (c_at l.length f z p) := by
  unfold spec_l04At.f c_at
  by_cases h2 : p < 0
  · rw [if_pos h2, if_neg (by omega)]
  · rw [if_neg h2]
    by_cases h3 : p ≥ z
    · rw [if_pos h3, if_neg (by omega)]
    · rw [if_neg h3, c_l01In, c_wrap (n := (l.length : Int) - 1) (by omega) (by omega)]
      simp only [Option.bind_some]
      by_cases h1 : c_in f 0 ((l.length : Int) - 1) = true
      · rw [if_pos h1]
        rw [c_in_iff] at h1
        rw [c_wrap (n := (l.length : Int) - f) (by omega) (by omega)]
        by_cases h4 : p ≥ (l.length : Int) - f
        · rw [if_pos h4, if_neg (by omega)]
        · rw [if_neg h4, if_pos (by omega), c_wrap (by omega) (by omega)]
      · rw [if_neg h1]
        rw [c_in_no] at h1
        rw [if_neg (by omega)]

/-! ### cells -/
def c_n (n : Nat) (f z : Int) : Nat := if 0 ≤ f then (min z ((n : Int) - f)).toNat else 0
theorem c_at_n (n : Nat) (f z : Int) (p : Nat) : c_at n f z (p : Int) = if p < c_n n f z then f + (p : Int) else -1 := by
  unfold c_at c_n
  by_cases h : 0 ≤ f
  · rw [if_pos h]
    split <;> split <;> omega
  · rw [if_neg h, if_neg (by omega), if_neg (by omega)]
theorem c_n_le (n : Nat) (f z : Int) : c_n n f z ≤ n ∧ (c_n n f z : Int) ≤ max z 0 ∧ (0 < c_n n f z → 0 ≤ f ∧ f + (c_n n f z : Int) ≤ n) := by
  unfold c_n
  split <;> omega
def c_cells (l : List Int) (f z : Int) : List Int := (l.drop f.toNat).take (c_n l.length f z)
theorem c_cells_step (l : List Int) (f z : Int) (p : Nat) (h : p < c_n l.length f z) : ((l.drop f.toNat).take p) ++ [rd l (f + (p : Int))] = (l.drop f.toNat).take (p + 1) := by
  obtain ⟨h1, h2, h3⟩ := c_n_le l.length f z
  obtain ⟨h4, h5⟩ := h3 (by omega)
  obtain ⟨g, rfl⟩ := Int.eq_ofNat_of_zero_le h4
  have e : (g : Int) + (p : Int) = ((g + p : Nat) : Int) := by omega
  rw [e, c_rd (by omega), Int.toNat_natCast, List.take_succ_eq_append_getElem (by rw [List.length_drop]; omega), List.getElem_drop]
theorem c_cells_len (l : List Int) (f z : Int) : (c_cells l f z).length ≤ l.length := by
  unfold c_cells
  rw [List.length_take, List.length_drop]
  omega

/-! ### loadcell -/
def c_load (l : List Int) (f z p : Int) : Int × Bool := if c_at l.length f z p < 0 then (0, false) else (rd l (c_at l.length f z p), true)

/-! ### store -/
def c_mod (n : Int) : Int := n % 65536
theorem c_copyInts (l : List Int) (hl : l.length ≤ 1048576) : impl_copyInts.f l = some l := by
  unfold impl_copyInts.f
  simp only [Option.bind_some]
  rw [if_pos (by simp; omega), List.nil_append]
theorem c_copyArena (l : List Int) (hl : l.length ≤ 1048576) : impl_copyArena.f l = some l := by
  unfold impl_copyArena.f
  rw [c_copyInts l hl]
  rfl
theorem c_l04Copy (l : List Int) (hl : l.length ≤ 1048576) : spec_l04Copy.f l = some l := by
  unfold spec_l04Copy.f
  simp only [Option.bind_some]
  rw [if_pos (by simp; omega), List.nil_append]
def c_store (l : List Int) (f z p n : Int) : List Int × Bool := if c_at l.length f z p < 0 then (l, false) else (l.set (c_at l.length f z p).toNat (c_mod n), true)
theorem c_store_len (l : List Int) (f z p n : Int) : (c_store l f z p n).1.length = l.length := by
  unfold c_store
  split
  · rfl
  · simp

/-! ### clearcells -/
def c_clearN (l : List Int) (f : Int) (p : Nat) : List Int := l.take f.toNat ++ (List.replicate p 0 ++ l.drop (f.toNat + p))
def c_clear (l : List Int) (f z : Int) : List Int := c_clearN l f (c_n l.length f z)
theorem c_clearN_zero (l : List Int) (f : Int) : c_clearN l f 0 = l := by simp [c_clearN]
theorem c_clearN_len (l : List Int) (f : Int) (p : Nat) (h : f.toNat + p ≤ l.length) : (c_clearN l f p).length = l.length := by
  unfold c_clearN
  rw [List.length_append, List.length_append, List.length_take, List.length_replicate, List.length_drop]
  omega
theorem c_clear_step (l : List Int) (f : Int) (p : Nat) (h : f.toNat + p < l.length) : (c_clearN l f p).set (f.toNat + p) 0 = c_clearN l f (p + 1) := by
  unfold c_clearN
  have hl : (l.take f.toNat).length = f.toNat := by rw [List.length_take]; omega
  rw [List.set_append_right _ _ (by omega), hl, List.set_append_right _ _ (by simp), List.length_replicate, List.drop_eq_getElem_cons h]
  have e : f.toNat + p - f.toNat - p = 0 := by omega
  rw [e, List.set_cons_zero, List.replicate_succ', List.append_assoc]
  rfl
theorem c_clear_len (l : List Int) (f z : Int) : (c_clear l f z).length = l.length := by
  obtain ⟨h1, h2, h3⟩ := c_n_le l.length f z
  rcases Nat.eq_zero_or_pos (c_n l.length f z) with h | h
  · unfold c_clear; rw [h, c_clearN_zero]
  · obtain ⟨h4, h5⟩ := h3 h
    exact c_clearN_len l f _ (by omega)

/-! ### clearcells_i -/
theorem c_clear_impl (l : List Int) (hl : l.length ≤ 1048576) (f z : Int) (hf : f ≤ 9223372036854775807) (d : Nat) : ∀ (k p : Nat), c_n l.length f z - p = d → p ≤ c_n l.length f z → d < k → impl_ClearCells.l0 k p l f z (c_clearN l f p) = some (c_clear l f z) := by
  obtain ⟨h1, h2, h3⟩ := c_n_le l.length f z
  induction d with
  | zero =>
    intro k p hd hp hk
    obtain ⟨k, rfl⟩ := c_up (k := k) (by omega)
    rw [impl_ClearCells.l0, c_cellAt l (by omega) f z p hf, c_at_n, if_neg (by omega)]
    simp only [Option.bind_some]
    rw [if_neg (by omega)]
    have : p = c_n l.length f z := by omega
    rw [this]
    rfl
  | succ d ih =>
    intro k p hd hp hk
    obtain ⟨k, rfl⟩ := c_up (k := k) (by omega)
    obtain ⟨h4, h5⟩ := h3 (by omega)
    have := ih k (p + 1) (by omega) (by omega) (by omega)
    have hlen := c_clearN_len l f p (by omega)
    have e : (f + (p : Int)).toNat = f.toNat + p := by omega
    rw [impl_ClearCells.l0, c_cellAt l (by omega) f z p hf, c_at_n, if_pos (by omega)]
    simp only [Option.bind_some]
    rw [if_pos (by omega), c_wrap (n := f + (p : Int)) (by omega) (by omega), if_pos (by omega), if_pos (by omega), e, c_clear_step l f p (by omega), c_inc (n := l.length) (by omega) (by omega), this]
theorem c_ClearCells_impl (l : List Int) (hl : l.length ≤ 1048576) (f z : Int) (hf : f ≤ 9223372036854775807) (k : Nat) (hk : l.length < k) : impl_ClearCells.f k l f z = some (c_clear l f z) := by
  obtain ⟨h1, h2, h3⟩ := c_n_le l.length f z
  have := c_clear_impl l hl f z hf (c_n l.length f z) k 0 (by omega) (by omega) (by omega)
  rw [c_clearN_zero] at this
  unfold impl_ClearCells.f
  rw [c_copyArena l hl]
  exact this

/-! ### clearcells_s -/
theorem c_clear_rest (l : List Int) (hl : l.length ≤ 1048576) (f z : Int) (hf : f ≤ 9223372036854775807) (acc : List Int) (d : Nat) : ∀ (k p : Nat), l.length - p = d → c_n l.length f z ≤ p → 2 * d + 2 ≤ k → spec_ClearCells.l0 k p l f z acc = some acc := by
  induction d with
  | zero =>
    intro k p hd hp hk
    obtain ⟨k, rfl⟩ : ∃ m, k = m + 1 + 1 := ⟨k - 2, by omega⟩
    have hz : decide ((p : Int) < (l.length : Int)) = false := by simp; omega
    rw [spec_ClearCells.l0, hz]
    have : spec_ClearCells.j1 (k + 1) p false l f z acc = some acc := by rw [spec_ClearCells.j1, if_neg (by decide)]
    split <;> exact this
  | succ d ih =>
    intro k p hd hp hk
    obtain ⟨k, rfl⟩ : ∃ m, k = m + 1 + 1 := ⟨k - 2, by omega⟩
    by_cases hz : (p : Int) < z
    · have hl' : decide ((p : Int) < (l.length : Int)) = true := by simp; omega
      rw [spec_ClearCells.l0, if_pos hz, hl', spec_ClearCells.j1, if_pos rfl, c_l04At l (by omega) f z p hf, c_at_n, if_neg (by omega)]
      simp only [Option.bind_some]
      rw [if_neg (by omega), c_inc (n := l.length) (by omega) (by omega)]
      exact ih k (p + 1) (by omega) (by omega) (by omega)
    · rw [spec_ClearCells.l0, if_neg hz, spec_ClearCells.j1, if_neg (by decide)]
theorem c_clear_spec (l : List Int) (hl : l.length ≤ 1048576) (f z : Int) (hf : f ≤ 9223372036854775807) (d : Nat) : ∀ (k p : Nat), c_n l.length f z - p = d → p ≤ c_n l.length f z → 2 * (l.length - p) + 2 ≤ k → spec_ClearCells.l0 k p l f z (c_clearN l f p) = some (c_clear l f z) := by
  obtain ⟨h1, h2, h3⟩ := c_n_le l.length f z
  induction d with
  | zero =>
    intro k p hd hp hk
    have e : p = c_n l.length f z := by omega
    rw [c_clear_rest l hl f z hf _ (l.length - p) k p rfl (by omega) (by omega), e]
    rfl
  | succ d ih =>
    intro k p hd hp hk
    obtain ⟨k, rfl⟩ : ∃ m, k = m + 1 + 1 := ⟨k - 2, by omega⟩
    obtain ⟨h4, h5⟩ := h3 (by omega)
    have := ih k (p + 1) (by omega) (by omega) (by omega)
    have hlen := c_clearN_len l f p (by omega)
    have e : (f + (p : Int)).toNat = f.toNat + p := by omega
    have hl' : decide ((p : Int) < (l.length : Int)) = true := by simp; omega
    rw [spec_ClearCells.l0, if_pos (by omega), hl', spec_ClearCells.j1, if_pos rfl, c_l04At l (by omega) f z p hf, c_at_n, if_pos (by omega)]
    simp only [Option.bind_some]
    rw [if_pos (by omega), if_pos (by omega), if_pos (by omega), e, c_clear_step l f p (by omega), c_inc (n := l.length) (by omega) (by omega), this]
theorem c_ClearCells_spec (l : List Int) (hl : l.length ≤ 1048576) (f z : Int) (hf : f ≤ 9223372036854775807) (k : Nat) (hk : 2 * l.length + 2 ≤ k) : spec_ClearCells.f k l f z = some (c_clear l f z) := by
  obtain ⟨h1, h2, h3⟩ := c_n_le l.length f z
  have := c_clear_spec l hl f z hf (c_n l.length f z) k 0 (by omega) (by omega) (by omega)
  rw [c_clearN_zero] at this
  unfold spec_ClearCells.f
  rw [c_l04Copy l hl]
  exact this

/-! ### toints -/
theorem c_szInts (l : List Int) (hl : l.length ≤ 9223372036854775807) : laws_szIntS.f l 1048576 = some (if l.length > 1048576 then -1 else 1048576 - (l.length : Int)) := by
  unfold laws_szIntS.f
  rw [c_wrap (by omega) (by omega)]
  by_cases h : l.length > 1048576
  · rw [if_pos (by omega), if_pos h]
  · rw [if_neg (by omega), if_neg h]
theorem c_szArena (l : List Int) (hl : l.length ≤ 9223372036854775807) : laws_szArena.f l 1048576 = some (if l.length > 1048576 then -1 else 1048576 - (l.length : Int)) := by
  unfold laws_szArena.f
  rw [c_szInts l hl]
  simp only [Option.bind_some]
  by_cases h : l.length > 1048576
  · rw [if_pos h, if_pos (by omega)]
  · rw [if_neg h, if_neg (by omega)]
theorem c_toInts_l (rest : List Int) : ∀ (k : Nat) (pre : List Int), pre.length + rest.length ≤ 9223372036854775807 → rest.length < k → laws_toIntS.l0 k (pre ++ rest) (pre ++ List.replicate rest.length 0) (pre.length : Int) = some (pre ++ rest) := by
  induction rest with
  | nil =>
    intro k pre hb hk
    obtain ⟨k, rfl⟩ := c_up (k := k) (by omega)
    rw [laws_toIntS.l0, if_neg (by simp)]
    simp
  | cons a rest ih =>
    intro k pre hb hk
    rw [List.length_cons] at hb hk
    obtain ⟨k, rfl⟩ := c_up (k := k) (by omega)
    have hset : (pre ++ List.replicate (a :: rest).length 0).set ((pre.length : Int)).toNat a = (pre ++ [a]) ++ List.replicate rest.length 0 := by
      rw [Int.toNat_natCast, List.set_append_right _ _ (by simp), Nat.sub_self, List.length_cons, List.replicate_succ, List.set_cons_zero, List.append_assoc]
      rfl
    have hw := Aside0.mk (c_inc (i := pre.length) (n := pre.length + 1) (by omega) (by omega))
    have := ih k (pre ++ [a]) (by rw [List.length_append, List.length_singleton]; omega) (by omega)
    rw [List.length_append, List.length_singleton, List.append_assoc pre [a] rest] at this
    rw [laws_toIntS.l0, if_pos (by rw [List.length_append, List.length_cons]; omega), if_pos (by omega), if_pos (by rw [List.length_append, List.length_replicate, List.length_cons]; omega), c_rd_app, hset, hw.out]
    exact this
theorem c_toInts (l : List Int) (hl : l.length ≤ 1048576) (k : Nat) (hk : l.length < k) : laws_toIntS.f k l = some l := by
  unfold laws_toIntS.f
  rw [if_pos (by omega), if_pos (by omega), Int.toNat_natCast]
  exact c_toInts_l l k [] (by simp; omega) hk
theorem c_toArena (l : List Int) (hl : l.length ≤ 1048576) (k : Nat) (hk : l.length < k) : laws_toArena.f k l = some l := by
  unfold laws_toArena.f
  rw [c_toInts l hl k hk]
  rfl

/-! ### eqints -/
theorem c_eqInts_l (l : List Int) (hl : l.length ≤ 9223372036854775807) (d : Nat) : ∀ (k i : Nat), l.length - i = d → i ≤ l.length → d < k → laws_eqIntS.l0 k l l i = some true := by
  induction d with
  | zero =>
    intro k i hd hi hk
    obtain ⟨k, rfl⟩ := c_up (k := k) (by omega)
    rw [laws_eqIntS.l0, if_neg (by omega)]
  | succ d ih =>
    intro k i hd hi hk
    obtain ⟨k, rfl⟩ := c_up (k := k) (by omega)
    rw [laws_eqIntS.l0, if_pos (by omega), if_pos (by omega), if_pos (by omega), if_pos rfl, c_inc (n := l.length) (by omega) hl]
    exact ih k (i + 1) (by omega) (by omega) (by omega)
theorem c_eqInts (l : List Int) (hl : l.length ≤ 9223372036854775807) (k : Nat) (hk : l.length < k) : laws_eqIntS.f k l l = some true := by
  unfold laws_eqIntS.f
  rw [if_pos rfl]
  exact c_eqInts_l l hl l.length k 0 (by omega) (by omega) hk

/-! ### markints -/
def c_seq (m : Int) (n : Nat) : List Int := (List.range n).map fun (i : Nat) => m + (i : Int)
theorem c_seq_len (m : Int) (n : Nat) : (c_seq m n).length = n := by simp [c_seq]
theorem c_seq_succ (m : Int) (n : Nat) : c_seq m (n + 1) = c_seq m n ++ [m + (n : Int)] := by simp [c_seq, List.range_succ]
theorem c_markInts_l (m : Int) (h0 : 0 ≤ m) (l : List Int) : ∀ (k i : Nat), m + (i : Int) + l.length ≤ 9223372036854775807 → l.length < k → laws_markIntS.l0 k (c_seq m i ++ l) (m + (i : Int)) i = some (m + (i : Int) + l.length, c_seq m (i + l.length)) := by
  induction l with
  | nil =>
    intro k i hb hk
    obtain ⟨k, rfl⟩ := c_up (k := k) (by omega)
    rw [List.append_nil, laws_markIntS.l0, if_neg (by rw [c_seq_len]; omega)]
    simp
  | cons a l ih =>
    intro k i hb hk
    rw [List.length_cons] at hb hk
    obtain ⟨k, rfl⟩ := c_up (k := k) (by omega)
    have hlen : (c_seq m i ++ a :: l).length = i + (l.length + 1) := by rw [List.length_append, c_seq_len, List.length_cons]
    have hset : (c_seq m i ++ a :: l).set ((i : Int)).toNat (m + (i : Int)) = c_seq m (i + 1) ++ l := by
      rw [Int.toNat_natCast, List.set_append_right _ _ (by rw [c_seq_len]; omega), c_seq_len, Nat.sub_self, List.set_cons_zero, c_seq_succ, List.append_assoc]
      rfl
    have e1 : m + (i : Int) + 1 = m + ((i + 1 : Nat) : Int) := by omega
    have := ih k (i + 1) (by omega) (by omega)
    rw [laws_markIntS.l0, if_pos (by rw [hlen]; omega), if_pos (by omega), hset, c_inc (n := 9223372036854775807) (by omega) (by omega), c_wrap (n := m + (i : Int) + 1) (by omega) (by omega), e1, this]
    congr 2
    · rw [List.length_cons]; omega
    · congr 1
      rw [List.length_cons]; omega
theorem c_markInts (l : List Int) (m : Int) (h0 : 0 ≤ m) (hb : m + l.length ≤ 9223372036854775807) (k : Nat) (hk : l.length < k) : laws_markIntS.f k l m = some (m + l.length, c_seq m l.length) := by
  have := c_markInts_l m h0 l k 0 (by omega) hk
  unfold laws_markIntS.f
  simpa [c_seq] using this
theorem c_heldInts_l (m : Int) (h0 : 0 ≤ m) (n : Nat) (hb : m + n ≤ 9223372036854775807) (d : Nat) : ∀ (k i : Nat), n - i = d → i ≤ n → d < k → laws_heldIntS.l0 k (c_seq m n) (m + (i : Int)) i = some (m + (n : Int)) := by
  induction d with
  | zero =>
    intro k i hd hi hk
    obtain ⟨k, rfl⟩ := c_up (k := k) (by omega)
    rw [laws_heldIntS.l0, if_neg (by rw [c_seq_len]; omega)]
    have : i = n := by omega
    rw [this]
  | succ d ih =>
    intro k i hd hi hk
    obtain ⟨k, rfl⟩ := c_up (k := k) (by omega)
    have hr : rd (c_seq m n) (i : Int) = m + (i : Int) := by
      rw [c_rd (by rw [c_seq_len]; omega)]
      simp [c_seq]
    have e1 : m + (i : Int) + 1 = m + ((i + 1 : Nat) : Int) := by omega
    have := ih k (i + 1) (by omega) (by omega) (by omega)
    rw [laws_heldIntS.l0, if_pos (by rw [c_seq_len]; omega), if_pos (by omega), if_pos hr, c_inc (n := n) (by omega) (by omega), c_wrap (n := m + (i : Int) + 1) (by omega) (by omega), e1, this]
theorem c_heldInts (m : Int) (h0 : 0 ≤ m) (n : Nat) (hb : m + n ≤ 9223372036854775807) (k : Nat) (hk : n < k) : laws_heldIntS.f k (c_seq m n) m = some (m + (n : Int)) := by
  have := c_heldInts_l m h0 n hb n k 0 (by omega) (by omega) hk
  unfold laws_heldIntS.f
  simpa using this

/-! ### arenaeq -/
theorem c_eqArena (l : List Int) (hl : l.length ≤ 9223372036854775807) (k : Nat) (hk : l.length < k) : laws_eqArena.f k l l = some true := by
  unfold laws_eqArena.f
  rw [c_eqInts l hl k hk]
  rfl
theorem c_markArena (l : List Int) (m : Int) (h0 : 0 ≤ m) (hb : m + l.length ≤ 9223372036854775807) (k : Nat) (hk : l.length < k) : laws_markArena.f k l m = some (m + l.length, c_seq m l.length) := by
  unfold laws_markArena.f
  rw [c_markInts l m h0 hb k hk]
  rfl
theorem c_heldArena (m : Int) (h0 : 0 ≤ m) (n : Nat) (hb : m + n ≤ 9223372036854775807) (k : Nat) (hk : n < k) : laws_heldArena.f k (c_seq m n) m = some (m + (n : Int)) := by
  unfold laws_heldArena.f
  rw [c_heldInts m h0 n hb k hk]
  simp only [Option.bind_some]
  rw [if_neg (by omega)]

/-! ### the law -/
theorem FnExactClearCells (l : List Int) (hl : l.length ≤ maxLen) (_ : ∀ x ∈ l, (Lit.int .i64 x).wf = true) (f : Int) (hf : (Lit.int .i64 f).wf = true) (z : Int) (_ : (Lit.int .i64 z).wf = true) : ∃ k, laws_FnExactClearCells.f k l f z = some true := by
  unfold maxLen at hl
  have hf := (c_wf hf).2
  have hc := c_clear_len l f z
  refine ⟨2 * l.length + 3, ?_⟩
  unfold laws_FnExactClearCells.f
  rw [c_szArena l hl]
  simp only [Option.bind_some]
  by_cases h : l.length > 1048576
  · rw [if_pos h, if_pos (by omega)]
  · rw [if_neg h, if_neg (by omega), c_toArena l (by omega) _ (by omega)]
    try simp only [Option.bind_some, laws_toRegion.f]
    rw [c_ClearCells_spec l (by omega) f z hf _ (by omega), c_ClearCells_impl l (by omega) f z hf _ (by omega)]
    try simp only [Option.bind_some]
    try rw [c_eqArena _ (by omega) _ (by omega)]
    try simp only [Option.bind_some, if_true]
    rw [c_eqArena l hl _ (by omega)]
    try simp only [Option.bind_some, if_true]
    rw [c_markArena l 1 (by omega) (by omega) _ (by omega)]
    try simp only [Option.bind_some]
    rw [if_neg (by omega)]
    try rw [c_eqArena _ (by omega) _ (by omega)]
    try simp only [Option.bind_some, Bool.not_true]
    rw [laws_FnExactClearCells.j0, if_neg (by decide), c_markArena _ 1 (by omega) (by omega) _ (by omega)]
    try simp only [Option.bind_some]
    try rw [c_heldArena 1 (by omega) _ (by omega) _ (by omega)]
    try simp only [Option.bind_some]
    rw [if_neg (by omega), if_true]
    try rw [c_toArena l (by omega) _ (by omega)]
    try simp only [Option.bind_some, laws_toRegion.f]
    rw [c_ClearCells_impl l (by omega) f z hf _ (by omega)]
    try simp only [Option.bind_some]
    try rw [c_eqArena _ (by omega) _ (by omega)]
    try simp only [Option.bind_some, if_true]
    try rw [c_heldArena 1 (by omega) _ (by omega) _ (by omega)]
    try simp only [Option.bind_some]
    rw [if_neg (by omega)]
    try rw [if_true]

end Go.Proofs.Ytimeeohggjagfaa.Pure
