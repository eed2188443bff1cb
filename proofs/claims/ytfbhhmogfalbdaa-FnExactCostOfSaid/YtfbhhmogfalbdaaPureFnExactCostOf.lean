/- CostOf of the program answers as the reference's CostOf, for every int. No condition beyond its kind. -/
import Derived.Test.YtfbhhmogfalbdaaPFnExactCostOfx1
namespace Go.Proofs.Ytfbhhmogfalbdaa.Pure
open Go.RowKit Go.Proofs.Ytfbhhmogfalbdaa.PFnExactCostOf Go.Proofs.YtfbhhmogfalbdaaW.PrintWords Go.Proofs.YtfbhhmogfalbdaaW.PrintLast
set_option linter.unusedVariables false
set_option linter.unusedSimpArgs false

/-! ### base -/
theorem c_wrap {n : Int} (h0 : -9223372036854775808 ≤ n) (h1 : n ≤ 9223372036854775807) : wrap64 n = n := by unfold wrap64; omega
theorem c_wf {n : Int} (h : (Lit.int .i64 n).wf = true) : -9223372036854775808 ≤ n ∧ n ≤ 9223372036854775807 := by
  simpa [Lit.wf, IntKind.min, IntKind.max, IntKind.signed, IntKind.bits] using h
theorem c_wf32 {n : Int} (h : (Lit.int .u32 n).wf = true) : 0 ≤ n ∧ n ≤ 4294967295 := by
  simpa [Lit.wf, IntKind.min, IntKind.max, IntKind.signed, IntKind.bits] using h
theorem c_up {k : Nat} (h : 0 < k) : ∃ m, k = m + 1 := ⟨k - 1, by omega⟩

/-! ### costof -/
def c_cost (a : Int) : Int := if a = 2 then 2 else if a = 3 then 2 else if a = 15 then 2 else if a = 16 then 2 else if a = 6 then 3 else if a = 7 then 3 else if a = 13 then 4 else if a = 14 then 4 else 1
theorem c_cost_spec (k : Nat) (a : Int) : spec_CostOf.f (k + 2) a = some (c_cost a) := by
  unfold spec_CostOf.f c_cost
  simp only [spec_CostOf.j0, spec_CostOf.j1]
  by_cases h2 : a = 2
  · subst h2; simp
  by_cases h3 : a = 3
  · subst h3; simp
  by_cases h15 : a = 15
  · subst h15; simp
  by_cases h16 : a = 16
  · subst h16; simp
  by_cases h6 : a = 6
  · subst h6; simp
  by_cases h7 : a = 7
  · subst h7; simp
  simp [h2, h3, h15, h16, h6, h7]
  split <;> (try split) <;> rfl
theorem c_cost_impl (k : Nat) (a : Int) : impl_CostOf.f (k + 2) a = some (c_cost a) := by
  unfold impl_CostOf.f c_cost
  simp only [impl_CostOf.j0, impl_CostOf.j1]
  by_cases h2 : a = 2
  · subst h2; simp
  by_cases h3 : a = 3
  · subst h3; simp
  by_cases h15 : a = 15
  · subst h15; simp
  by_cases h16 : a = 16
  · subst h16; simp
  by_cases h6 : a = 6
  · subst h6; simp
  by_cases h7 : a = 7
  · subst h7; simp
  simp [h2, h3, h15, h16, h6, h7]
  split <;> (try split) <;> rfl

/-! ### the law -/
theorem FnExactCostOf : laws_FnExactCostOf.Pure := by
  intro a _
  refine ⟨0 + 2, ?_⟩
  unfold laws_FnExactCostOf.f
  rw [c_cost_spec, c_cost_impl]
  simp only [Option.bind_some]
  simp

end Go.Proofs.Ytfbhhmogfalbdaa.Pure
