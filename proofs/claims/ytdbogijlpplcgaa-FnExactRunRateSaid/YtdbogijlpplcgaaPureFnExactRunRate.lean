/- RunRate of the program answers as the reference's RunRate, for every rate and count. No condition beyond their kinds. -/
import Derived.Test.YtdbogijlpplcgaaPFnExactRunRatex0
import Derived.Test.YtdbogijlpplcgaaPFnExactRunRatex1
namespace Go.Proofs.Ytdbogijlpplcgaa.Pure
open Go.RowKit Go.Proofs.Ytdbogijlpplcgaa.PFnExactRunRate Go.Proofs.YtdbogijlpplcgaaW.PrintWords Go.Proofs.YtdbogijlpplcgaaW.PrintLast
set_option linter.unusedVariables false
set_option linter.unusedSimpArgs false

/-! ### base -/
theorem c_wrap {n : Int} (h0 : -9223372036854775808 ≤ n) (h1 : n ≤ 9223372036854775807) : wrap64 n = n := by unfold wrap64; omega
theorem c_wf {n : Int} (h : (Lit.int .i64 n).wf = true) : -9223372036854775808 ≤ n ∧ n ≤ 9223372036854775807 := by
  simpa [Lit.wf, IntKind.min, IntKind.max, IntKind.signed, IntKind.bits] using h
theorem c_wf32 {n : Int} (h : (Lit.int .u32 n).wf = true) : 0 ≤ n ∧ n ≤ 4294967295 := by
  simpa [Lit.wf, IntKind.min, IntKind.max, IntKind.signed, IntKind.bits] using h
theorem c_up {k : Nat} (h : 0 < k) : ∃ m, k = m + 1 := ⟨k - 1, by omega⟩

/-! ### within -/
def c_in (n l h : Int) : Bool := decide (l ≤ n) && decide (n ≤ h)
theorem c_in_iff {n l h : Int} : c_in n l h = true ↔ l ≤ n ∧ n ≤ h := by simp [c_in]
theorem c_in_no {n l h : Int} : ¬ c_in n l h = true ↔ n < l ∨ h < n := by rw [c_in_iff]; omega

/-! ### within_s -/
theorem c_l01In (n l h : Int) : spec_l01In.f n l h = some (c_in n l h) := by
  unfold spec_l01In.f c_in
  by_cases h0 : n ≥ l
  · rw [if_pos h0]; simp [h0]
  · rw [if_neg h0]; simp; omega

/-! ### within_i -/
theorem c_within (n l h : Int) : impl_within.f n l h = some (c_in n l h) := by
  unfold impl_within.f c_in
  by_cases h0 : n ≥ l
  · rw [if_pos h0]; simp [h0]
  · rw [if_neg h0]; simp; omega

/-! ### rateok -/
def c_rateOk (a b c : Int) : Bool := c_in a 0 1000000 && c_in b 1 1000000 && c_in c 0 (b - 1)
theorem c_rateOk_iff {a b c : Int} : c_rateOk a b c = true ↔ (0 ≤ a ∧ a ≤ 1000000) ∧ (1 ≤ b ∧ b ≤ 1000000) ∧ 0 ≤ c ∧ c ≤ b - 1 := by
  unfold c_rateOk
  rw [Bool.and_eq_true, Bool.and_eq_true, c_in_iff, c_in_iff, c_in_iff, and_assoc]
theorem c_rate_spec (a b c : Int) : spec_RateOk.f a b c = some (c_rateOk a b c) := by
  unfold spec_RateOk.f c_rateOk
  simp only [c_l01In, Option.bind_some]
  by_cases h1 : c_in a 0 1000000 = true
  · rw [if_pos h1]
    by_cases h2 : c_in b 1 1000000 = true
    · rw [if_pos h2, c_wrap (by rw [c_in_iff] at h2; omega) (by rw [c_in_iff] at h2; omega), h1, h2]; simp
    · rw [if_neg h2]; simp [h2]
  · rw [if_neg h1]; simp [h1]
theorem c_rate_impl (a b c : Int) : impl_RateOk.f a b c = some (c_rateOk a b c) := by
  unfold impl_RateOk.f c_rateOk
  simp only [c_within, Option.bind_some]
  by_cases h1 : c_in a 0 1000000 = true
  · rw [if_pos h1]
    by_cases h2 : c_in b 1 1000000 = true
    · rw [if_pos h2, c_wrap (by rw [c_in_iff] at h2; omega) (by rw [c_in_iff] at h2; omega), h1, h2]; simp
    · rw [if_neg h2]; simp [h2]
  · rw [if_neg h1]; simp [h1]

/-! ### steprate -/
def c_step (a b c : Int) : Int × Int × Int × Int := if c_rateOk a b c = true then (a, b, (c + a) % b, (c + a) / b) else (a, b, c, 0)
theorem c_step_spec (a b c : Int) : spec_StepRate.f a b c = some (c_step a b c) := by
  unfold spec_StepRate.f c_step
  rw [c_rate_spec]
  simp only [Option.bind_some]
  by_cases h : c_rateOk a b c = true
  · have h' := c_rateOk_iff.1 h
    rw [if_pos h, if_pos h, if_neg (by omega), c_wrap (n := c + a) (by omega) (by omega), Int.tmod_eq_emod_of_nonneg (by omega), Int.tdiv_eq_ediv_of_nonneg (by omega), c_wrap]
    · have := Int.ediv_nonneg (a := c + a) (b := b) (by omega) (by omega); omega
    · have := Int.ediv_le_self b (a := c + a) (by omega); omega
  · rw [if_neg h, if_neg h]
theorem c_step_impl (a b c : Int) : impl_StepRate.f a b c = some (c_step a b c) := by
  unfold impl_StepRate.f c_step
  rw [c_rate_impl]
  simp only [Option.bind_some]
  by_cases h : c_rateOk a b c = true
  · have h' := c_rateOk_iff.1 h
    rw [if_pos h, if_pos h, if_neg (by omega), c_wrap (n := c + a) (by omega) (by omega), Int.tmod_eq_emod_of_nonneg (by omega), Int.tdiv_eq_ediv_of_nonneg (by omega), c_wrap]
    · have := Int.ediv_nonneg (a := c + a) (b := b) (by omega) (by omega); omega
    · have := Int.ediv_le_self b (a := c + a) (by omega); omega
  · rw [if_neg h, if_neg h]

/-! ### runrate -/
def c_run : Nat → Int → Int → Int → Int → Int × Int × Int × Int
  | 0, s, a, b, c => (a, b, c, s)
  | n + 1, s, a, b, c => c_run n (wrap64 (s + (c_step a b c).2.2.2)) (c_step a b c).1 (c_step a b c).2.1 (c_step a b c).2.2.1

/-! ### runrate_s -/
theorem c_run_spec (n : Int) (d : Nat) : ∀ (k i : Nat) (s a b c : Int), (min n 1000).toNat - i = d → d < k → spec_RunRate.l0 k n s i a b c = some (c_run d s a b c) := by
  induction d with
  | zero =>
    intro k i s a b c hd hk
    obtain ⟨k, rfl⟩ := c_up (k := k) (by omega)
    rw [spec_RunRate.l0]
    by_cases h1 : (i : Int) < n
    · rw [if_pos h1, if_neg (by omega)]; rfl
    · rw [if_neg h1]; rfl
  | succ d ih =>
    intro k i s a b c hd hk
    obtain ⟨k, rfl⟩ := c_up (k := k) (by omega)
    have hw : wrap64 ((i : Int) + 1) = ((i + 1 : Nat) : Int) := by rw [c_wrap (by omega) (by omega)]; omega
    rw [spec_RunRate.l0, if_pos (by omega), if_pos (by omega), c_step_spec, hw]
    simp only [Option.bind_some]
    rw [ih k (i + 1) _ _ _ _ (by omega) (by omega)]
    rfl
theorem c_RunRate_spec (n a b c : Int) (k : Nat) (hk : 1000 < k) : spec_RunRate.f k a b c n = some (c_run (min n 1000).toNat 0 a b c) := by
  unfold spec_RunRate.f
  exact c_run_spec n _ k 0 0 a b c (by omega) (by omega)

/-! ### runrate_i -/
theorem c_run_impl (n : Int) (hn : n ≤ 1000) (d : Nat) : ∀ (k i : Nat) (s a b c : Int), n.toNat - i = d → d < k → impl_RunRate.l0 k s n i a b c = some (c_run d s a b c) := by
  induction d with
  | zero =>
    intro k i s a b c hd hk
    obtain ⟨k, rfl⟩ := c_up (k := k) (by omega)
    rw [impl_RunRate.l0, if_neg (by omega)]
    rfl
  | succ d ih =>
    intro k i s a b c hd hk
    obtain ⟨k, rfl⟩ := c_up (k := k) (by omega)
    have hw : wrap64 ((i : Int) + 1) = ((i + 1 : Nat) : Int) := by rw [c_wrap (by omega) (by omega)]; omega
    rw [impl_RunRate.l0, if_pos (by omega), c_step_impl, hw]
    simp only [Option.bind_some]
    rw [ih k (i + 1) _ _ _ _ (by omega) (by omega)]
    rfl
theorem c_mn (n : Int) : mn n 1000 = min n 1000 := by unfold mn; split <;> omega
theorem c_RunRate_impl (n a b c : Int) (k : Nat) (hk : 1000 < k) : impl_RunRate.f k a b c n = some (c_run (min n 1000).toNat 0 a b c) := by
  unfold impl_RunRate.f
  rw [c_mn]
  exact c_run_impl _ (by omega) _ k 0 0 a b c (by omega) (by omega)

/-! ### the law -/
theorem FnExactRunRate (a0 : Int) (_ : (Lit.int .i64 a0).wf = true) (a1 : Int) (_ : (Lit.int .i64 a1).wf = true) (a2 : Int) (_ : (Lit.int .i64 a2).wf = true) (n : Int) (_ : (Lit.int .i64 n).wf = true) : ∃ k, laws_FnExactRunRate.f k a0 a1 a2 n = some true := by
  refine ⟨1001, ?_⟩
  simp only [laws_FnExactRunRate.f, laws_toRate.f, c_RunRate_spec n _ _ _ 1001 (by omega), c_RunRate_impl n _ _ _ 1001 (by omega), Option.bind_some, laws_eqRate.f]
  simp

end Go.Proofs.Ytdbogijlpplcgaa.Pure
