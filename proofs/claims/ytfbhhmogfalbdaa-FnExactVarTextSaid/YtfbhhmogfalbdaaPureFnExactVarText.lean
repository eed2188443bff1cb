/- VarText of the program answers as the reference's VarText, for every int. No condition beyond its kind. -/
import Derived.Test.YtfbhhmogfalbdaaPFnExactVarTextx1
namespace Go.Proofs.Ytfbhhmogfalbdaa.Pure
open Go.RowKit Go.Proofs.Ytfbhhmogfalbdaa.PFnExactVarText Go.Proofs.YtfbhhmogfalbdaaW.PrintWords Go.Proofs.YtfbhhmogfalbdaaW.PrintLast
set_option linter.unusedVariables false
set_option linter.unusedSimpArgs false

/-! ### base -/
theorem c_wrap {n : Int} (h0 : -9223372036854775808 ≤ n) (h1 : n ≤ 9223372036854775807) : wrap64 n = n := by unfold wrap64; omega
theorem c_wf {n : Int} (h : (Lit.int .i64 n).wf = true) : -9223372036854775808 ≤ n ∧ n ≤ 9223372036854775807 := by
  simpa [Lit.wf, IntKind.min, IntKind.max, IntKind.signed, IntKind.bits] using h
theorem c_wf32 {n : Int} (h : (Lit.int .u32 n).wf = true) : 0 ≤ n ∧ n ≤ 4294967295 := by
  simpa [Lit.wf, IntKind.min, IntKind.max, IntKind.signed, IntKind.bits] using h
theorem c_up {k : Nat} (h : 0 < k) : ∃ m, k = m + 1 := ⟨k - 1, by omega⟩

/-! ### vartext -/
def c_var : Nat → Nat → List Int
  | 0, n => [(n : Int)]
  | j + 1, n => if n > 127 then ((n % 128 + 128 : Nat) : Int) :: c_var j (n / 128) else [(n : Int)]
theorem c_var_length (j : Nat) : ∀ n, (c_var j n).length ≤ j + 1 := by
  induction j with
  | zero => intro n; simp [c_var]
  | succ j ih =>
    intro n
    unfold c_var
    split
    · have := ih (n / 128); simp; omega
    · simp
theorem c_var_div {j n : Nat} (h : n < 128 ^ (j + 2)) : n / 128 < 128 ^ (j + 1) := by
  rw [Nat.pow_succ] at h
  exact Nat.div_lt_of_lt_mul (by rw [Nat.mul_comm]; exact h)
theorem c_var_step {n : Nat} (h : n ≤ 9223372036854775807) : wrap64 (Int.tdiv (n : Int) 128) = ((n / 128 : Nat) : Int) ∧ (wrap64 (Int.tmod (n : Int) 128 + 128)) % 256 = ((n % 128 + 128 : Nat) : Int) := by
  rw [Int.tdiv_eq_ediv_of_nonneg (by omega), Int.tmod_eq_emod_of_nonneg (by omega), c_wrap (by omega) (by omega), c_wrap (by omega) (by omega)]
  omega

/-! ### vartext_s -/
theorem c_var_spec (j : Nat) : ∀ (k n : Nat) (acc : List Int), n < 128 ^ (j + 1) → n ≤ 9223372036854775807 → acc.length + j < 140737488355328 → j < k → spec_l01Var.l0 k n acc = some (strOfNums (acc ++ c_var j n)) := by
  induction j with
  | zero =>
    intro k n acc hn hm hl hk
    obtain ⟨k, rfl⟩ := c_up (k := k) (by omega)
    simp only [spec_l01Var.l0]
    rw [if_neg (by omega), if_pos (by omega), c_var]
    congr 3
    simp
    omega
  | succ j ih =>
    intro k n acc hn hm hl hk
    obtain ⟨k, rfl⟩ := c_up (k := k) (by omega)
    obtain ⟨e1, e2⟩ := c_var_step hm
    simp only [spec_l01Var.l0]
    by_cases h : n > 127
    · rw [if_pos (by omega), if_pos (by omega), e1, e2, ih k _ _ (c_var_div hn) (by omega) (by simp; omega) (by omega), c_var, if_pos h, List.append_assoc]
      rfl
    · rw [if_neg (by omega), if_pos (by omega), c_var, if_neg h]
      congr 3
      simp
      omega
theorem c_l01Var {n : Nat} (h : n ≤ 1000000000) {k : Nat} (hk : 4 < k) : spec_l01Var.f k n = some (strOfNums (c_var 4 n)) := by
  have := c_var_spec 4 k n [] (by omega) (by omega) (by simp) hk
  simpa [spec_l01Var.f] using this

/-! ### within -/
def c_in (n l h : Int) : Bool := decide (l ≤ n) && decide (n ≤ h)
theorem c_in_iff {n l h : Int} : c_in n l h = true ↔ l ≤ n ∧ n ≤ h := by simp [c_in]
theorem c_in_no {n l h : Int} : ¬ c_in n l h = true ↔ n < l ∨ h < n := by rw [c_in_iff]; omega

/-! ### within_i -/
theorem c_within (n l h : Int) : impl_within.f n l h = some (c_in n l h) := by
  unfold impl_within.f c_in
  by_cases h0 : n ≥ l
  · rw [if_pos h0]; simp [h0]
  · rw [if_neg h0]; simp; omega

/-! ### vartext_i -/
theorem c_var_impl (j : Nat) : ∀ (k n : Nat) (acc : List Int), n < 128 ^ (j + 1) → n ≤ 9223372036854775807 → acc.length + j < 140737488355328 → j < k → impl_VarText.l0 k n acc = some (strOfNums (acc ++ c_var j n), true) := by
  induction j with
  | zero =>
    intro k n acc hn hm hl hk
    obtain ⟨k, rfl⟩ := c_up (k := k) (by omega)
    simp only [impl_VarText.l0]
    rw [if_neg (by omega), if_pos (by omega), c_var]
    congr 4
    simp
    omega
  | succ j ih =>
    intro k n acc hn hm hl hk
    obtain ⟨k, rfl⟩ := c_up (k := k) (by omega)
    obtain ⟨e1, e2⟩ := c_var_step hm
    simp only [impl_VarText.l0]
    by_cases h : n > 127
    · rw [if_pos (by omega), if_pos (by omega), e1, e2, ih k _ _ (c_var_div hn) (by omega) (by simp; omega) (by omega), c_var, if_pos h, List.append_assoc]
      rfl
    · rw [if_neg (by omega), if_pos (by omega), c_var, if_neg h]
      congr 4
      simp
      omega
theorem c_VarText {n : Nat} (h : n ≤ 1000000000) {k : Nat} (hk : 4 < k) : impl_VarText.f k n = some (strOfNums (c_var 4 n), true) := by
  have := c_var_impl 4 k n [] (by omega) (by omega) (by simp) hk
  unfold impl_VarText.f
  rw [c_within]
  simp only [Option.bind_some]
  rw [if_pos (c_in_iff.2 ⟨by omega, by omega⟩)]
  simpa using this
theorem c_VarText_no {n : Int} (h : n < 0 ∨ 1000000000 < n) (k : Nat) : impl_VarText.f k n = some ((⟨#[]⟩ : ByteArray), false) := by
  unfold impl_VarText.f
  rw [c_within]
  simp only [Option.bind_some]
  rw [if_neg (c_in_no.2 h)]

/-! ### within_s -/
theorem c_l01In (n l h : Int) : spec_l01In.f n l h = some (c_in n l h) := by
  unfold spec_l01In.f c_in
  by_cases h0 : n ≥ l
  · rw [if_pos h0]; simp [h0]
  · rw [if_neg h0]; simp; omega

/-! ### the law -/
theorem FnExactVarText : laws_FnExactVarText.Pure := by
  intro a _
  refine ⟨5, ?_⟩
  unfold laws_FnExactVarText.f spec_VarText.f
  rw [c_l01In]
  simp only [Option.bind_some]
  by_cases h : c_in a 0 1000000000 = true
  · rw [if_pos h]
    rw [c_in_iff] at h
    obtain ⟨n, rfl⟩ := Int.eq_ofNat_of_zero_le h.1
    rw [c_l01Var (by omega) (by omega), c_VarText (by omega) (by omega)]
    simp only [Option.bind_some]
    simp
  · rw [if_neg h, c_VarText_no (c_in_no.1 h)]
    simp

end Go.Proofs.Ytfbhhmogfalbdaa.Pure
