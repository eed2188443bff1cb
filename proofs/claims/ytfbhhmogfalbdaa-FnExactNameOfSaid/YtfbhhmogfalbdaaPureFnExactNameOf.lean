/- NameOf of the program answers as the reference's NameOf, for every int. No condition beyond its kind. -/
import Derived.Test.YtfbhhmogfalbdaaPFnExactNameOfx1
namespace Go.Proofs.Ytfbhhmogfalbdaa.Pure
open Go.RowKit Go.Proofs.Ytfbhhmogfalbdaa.PFnExactNameOf Go.Proofs.YtfbhhmogfalbdaaW.PrintWords Go.Proofs.YtfbhhmogfalbdaaW.PrintLast
set_option linter.unusedVariables false
set_option linter.unusedSimpArgs false

/-! ### base -/
theorem c_wrap {n : Int} (h0 : -9223372036854775808 ≤ n) (h1 : n ≤ 9223372036854775807) : wrap64 n = n := by unfold wrap64; omega
theorem c_wf {n : Int} (h : (Lit.int .i64 n).wf = true) : -9223372036854775808 ≤ n ∧ n ≤ 9223372036854775807 := by
  simpa [Lit.wf, IntKind.min, IntKind.max, IntKind.signed, IntKind.bits] using h
theorem c_wf32 {n : Int} (h : (Lit.int .u32 n).wf = true) : 0 ≤ n ∧ n ≤ 4294967295 := by
  simpa [Lit.wf, IntKind.min, IntKind.max, IntKind.signed, IntKind.bits] using h
theorem c_up {k : Nat} (h : 0 < k) : ∃ m, k = m + 1 := ⟨k - 1, by omega⟩

/-! ### within -/
def c_in (n l h : Int) : Bool := decide (l ≤ n) && decide (n ≤ h)
theorem c_in_iff {n l h : Int} : c_in n l h = true ↔ l ≤ n ∧ n ≤ h := by simp [c_in]
theorem c_in_no {n l h : Int} : ¬ c_in n l h = true ↔ n < l ∨ h < n := by rw [c_in_iff]; omega

/-! ### within_s -/
theorem c_l01In (n l h : Int) : spec_l01In.f n l h = some (c_in n l h) := by
  unfold spec_l01In.f c_in
  by_cases h0 : n ≥ l
  · rw [if_pos h0]; simp [h0]
  · rw [if_neg h0]; simp; omega

/-! ### within_i -/
theorem c_within (n l h : Int) : impl_within.f n l h = some (c_in n l h) := by
  unfold impl_within.f c_in
  by_cases h0 : n ≥ l
  · rw [if_pos h0]; simp [h0]
  · rw [if_neg h0]; simp; omega

/-! ### nameof -/
theorem c_names : spec_l05Names.f = impl_opNames.f := rfl
theorem c_names_some : ∃ l, impl_opNames.f = some l ∧ l.length = 18 := ⟨_, rfl, rfl⟩
theorem c_nameOf_same (a : Int) : spec_NameOf.f a = impl_NameOf.f a := by
  simp only [spec_NameOf.f, impl_NameOf.f, impl_hasOp.f, c_l01In, c_within, c_names, Option.bind_some]
theorem c_nameOf_some (a : Int) : ∃ r, impl_NameOf.f a = some r := by
  obtain ⟨l, hl, hn⟩ := c_names_some
  simp only [impl_NameOf.f, impl_hasOp.f, c_within, Option.bind_some, hl]
  by_cases h : c_in a 0 17 = true
  · rw [if_pos h]
    rw [c_in_iff] at h
    rw [if_pos h.1, if_pos (by omega)]
    exact ⟨_, rfl⟩
  · rw [if_neg h]
    exact ⟨_, rfl⟩

/-! ### the law -/
theorem FnExactNameOf : laws_FnExactNameOf.Pure := by
  intro a _
  obtain ⟨r, hr⟩ := c_nameOf_some a
  unfold laws_FnExactNameOf.f
  rw [c_nameOf_same, hr]
  simp only [Option.bind_some]
  simp

end Go.Proofs.Ytfbhhmogfalbdaa.Pure
