/- AddSat of the program answers as the reference's AddSat, for every two ints. No condition beyond their kind. -/
import Derived.Test.YtfbhhmogfalbdaaPFnExactAddSatx1
namespace Go.Proofs.Ytfbhhmogfalbdaa.Pure
open Go.RowKit Go.Proofs.Ytfbhhmogfalbdaa.PFnExactAddSat Go.Proofs.YtfbhhmogfalbdaaW.PrintWords Go.Proofs.YtfbhhmogfalbdaaW.PrintLast
set_option linter.unusedVariables false
set_option linter.unusedSimpArgs false

/-! ### base -/
theorem c_wrap {n : Int} (h0 : -9223372036854775808 ≤ n) (h1 : n ≤ 9223372036854775807) : wrap64 n = n := by unfold wrap64; omega
theorem c_wf {n : Int} (h : (Lit.int .i64 n).wf = true) : -9223372036854775808 ≤ n ∧ n ≤ 9223372036854775807 := by
  simpa [Lit.wf, IntKind.min, IntKind.max, IntKind.signed, IntKind.bits] using h
theorem c_wf32 {n : Int} (h : (Lit.int .u32 n).wf = true) : 0 ≤ n ∧ n ≤ 4294967295 := by
  simpa [Lit.wf, IntKind.min, IntKind.max, IntKind.signed, IntKind.bits] using h
theorem c_up {k : Nat} (h : 0 < k) : ∃ m, k = m + 1 := ⟨k - 1, by omega⟩

/-! ### addsat -/
def c_bnd (a : Int) : Int := if a > 1000000000000 then 1000000000000 else if a < -1000000000000 then -1000000000000 else a
theorem c_bnd_le (a : Int) : -1000000000000 ≤ c_bnd a ∧ c_bnd a ≤ 1000000000000 := by unfold c_bnd; split <;> (try split) <;> omega
theorem c_bnd_id {a : Int} (h0 : -1000000000000 ≤ a) (h1 : a ≤ 1000000000000) : c_bnd a = a := by unfold c_bnd; rw [if_neg (by omega), if_neg (by omega)]
theorem c_l03Into (a : Int) : spec_l03Into.f a = some (c_bnd a) := by unfold spec_l03Into.f c_bnd; split <;> (try split) <;> rfl
theorem c_bounded (a : Int) : impl_bounded.f a = some (c_bnd a) := by
  unfold impl_bounded.f c_bnd mn mx
  congr 1
  (repeat' split) <;> omega

/-! ### addsat2 -/
def c_add (a b : Int) : Int := c_bnd (c_bnd a + c_bnd b)
theorem c_add_w (a b : Int) : wrap64 (c_bnd a + c_bnd b) = c_bnd a + c_bnd b := c_wrap (by have := c_bnd_le a; have := c_bnd_le b; omega) (by have := c_bnd_le a; have := c_bnd_le b; omega)
theorem c_sAddSat (a b : Int) : spec_AddSat.f a b = some (c_add a b) := by simp only [spec_AddSat.f, c_l03Into, Option.bind_some, c_add_w, c_add]
theorem c_iAddSat (a b : Int) : impl_AddSat.f a b = some (c_add a b) := by simp only [impl_AddSat.f, c_bounded, Option.bind_some, c_add_w, c_add]

/-! ### the law -/
theorem FnExactAddSat : laws_FnExactAddSat.Pure := by
  intro a b _ _
  simp only [laws_FnExactAddSat.f, c_sAddSat, c_iAddSat, Option.bind_some]
  simp

end Go.Proofs.Ytfbhhmogfalbdaa.Pure
