/- MulSat of the program answers as the reference's MulSat, for every two ints. No condition beyond their kind. -/
import Derived.Test.YtdbogijlpplcgaaMFnExactMulSatx1
namespace Go.Proofs.Ytdbogijlpplcgaa.Pure
open Go.RowKit Go.Proofs.Ytdbogijlpplcgaa.PFnExactMulSat Go.Proofs.YtdbogijlpplcgaaW.PrintWords Go.Proofs.YtdbogijlpplcgaaW.PrintLast
set_option linter.unusedVariables false
set_option linter.unusedSimpArgs false

/-! ### base -/
theorem c_wrap {n : Int} (h0 : -9223372036854775808 ≤ n) (h1 : n ≤ 9223372036854775807) : wrap64 n = n := by unfold wrap64; omega
theorem c_wf {n : Int} (h : (Lit.int .i64 n).wf = true) : -9223372036854775808 ≤ n ∧ n ≤ 9223372036854775807 := by
  simpa [Lit.wf, IntKind.min, IntKind.max, IntKind.signed, IntKind.bits] using h
theorem c_wf32 {n : Int} (h : (Lit.int .u32 n).wf = true) : 0 ≤ n ∧ n ≤ 4294967295 := by
  simpa [Lit.wf, IntKind.min, IntKind.max, IntKind.signed, IntKind.bits] using h
theorem c_up {k : Nat} (h : 0 < k) : ∃ m, k = m + 1 := ⟨k - 1, by omega⟩

/-! ### addsat -/
def c_bnd (a : Int) : Int := if a > 1000000000000 then 1000000000000 else if a < -1000000000000 then -1000000000000 else a
theorem c_bnd_le (a : Int) : -1000000000000 ≤ c_bnd a ∧ c_bnd a ≤ 1000000000000 := by unfold c_bnd; split <;> (try split) <;> omega
theorem c_bnd_id {a : Int} (h0 : -1000000000000 ≤ a) (h1 : a ≤ 1000000000000) : c_bnd a = a := by unfold c_bnd; rw [if_neg (by omega), if_neg (by omega)]
theorem c_l03Into (a : Int) : spec_l03Into.f a = some (c_bnd a) := by unfold spec_l03Into.f c_bnd; split <;> (try split) <;> rfl
theorem c_bounded (a : Int) : impl_bounded.f a = some (c_bnd a) := by
  unfold impl_bounded.f c_bnd mn mx
  congr 1
  (repeat' split) <;> omega

/-! ### mulsat -/
def c_abs (a : Int) : Int := if a < 0 then -a else a
theorem c_abs_nn (a : Int) : 0 ≤ c_abs a := by unfold c_abs; split <;> omega
theorem c_abs_le {a : Int} (h0 : -1000000000000 ≤ a) (h1 : a ≤ 1000000000000) : c_abs a ≤ 1000000000000 := by unfold c_abs; split <;> omega
theorem c_abs_mul (a b : Int) : a * b = c_abs a * c_abs b ∨ a * b = -(c_abs a * c_abs b) := by
  unfold c_abs
  split <;> split
  · left; rw [Int.neg_mul_neg]
  · right; rw [Int.neg_mul, Int.neg_neg]
  · right; rw [Int.mul_neg, Int.neg_neg]
  · left; rfl
def c_mulc (a b : Int) : Int := if c_abs a * c_abs b ≤ 1000000000000 then a * b else if (decide (a < 0) == decide (b < 0)) = true then 1000000000000 else -1000000000000
def c_mul (a b : Int) : Int := c_mulc (c_bnd a) (c_bnd b)
theorem c_mul_wrap {a b : Int} (h : c_abs a * c_abs b ≤ 1000000000000) : wrap64 (a * b) = a * b := by
  have h0 : 0 ≤ c_abs a * c_abs b := Int.mul_nonneg (c_abs_nn a) (c_abs_nn b)
  rcases c_abs_mul a b with e | e <;> rw [e] <;> exact c_wrap (by omega) (by omega)
theorem c_mx_abs {a : Int} (h0 : -1000000000000 ≤ a) (h1 : a ≤ 1000000000000) : mx a (wrap64 (-a)) = c_abs a := by
  rw [c_wrap (by omega) (by omega)]
  unfold mx c_abs
  split <;> split <;> omega
theorem c_quot {x : Int} (h : 0 < x) : wrap64 ((1000000000000 : Int) / x) = 1000000000000 / x := by
  have h0 : 0 ≤ (1000000000000 : Int) / x := Int.ediv_nonneg (by omega) (by omega)
  have h1 : (1000000000000 : Int) / x ≤ 1000000000000 := Int.ediv_le_self x (by omega)
  exact c_wrap (by omega) (by omega)
theorem c_abs_zero {a : Int} : c_abs a = 0 ↔ a = 0 := by unfold c_abs; split <;> omega

/-! ### mulsat_i -/
theorem c_iMulSat (k : Nat) (a b : Int) : impl_MulSat.f (k + 1) a b = some (c_mul a b) := by
  unfold impl_MulSat.f c_mul c_mulc
  rw [c_bounded, c_bounded]
  simp only [Option.bind_some]
  obtain ⟨ha0, ha1⟩ := c_bnd_le a
  obtain ⟨hb0, hb1⟩ := c_bnd_le b
  generalize c_bnd a = x at *
  generalize c_bnd b = y at *
  rw [c_mx_abs ha0 ha1, c_mx_abs hb0 hb1]
  have hy := c_abs_nn y
  have hx := c_abs_nn x
  by_cases h0 : c_abs x = 0
  · have hf : c_abs x * c_abs y ≤ 1000000000000 := by rw [h0, Int.zero_mul]; omega
    rw [if_pos h0, if_pos hf, impl_MulSat.j0, if_pos rfl, c_mul_wrap hf]
  · have hp : 0 < c_abs x := by omega
    rw [if_neg h0, c_quot hp, impl_MulSat.j0]
    have hiff : c_abs y ≤ 1000000000000 / c_abs x ↔ c_abs x * c_abs y ≤ 1000000000000 := by rw [Int.le_ediv_iff_mul_le hp, Int.mul_comm]
    by_cases hf : c_abs x * c_abs y ≤ 1000000000000
    · rw [if_pos (decide_eq_true (hiff.2 hf)), if_pos hf, c_mul_wrap hf]
    · rw [if_neg (by rw [decide_eq_true_iff, hiff]; exact hf), if_neg hf]
      split <;> rfl

/-! ### mulsat_s -/
theorem c_mul_j2 (k : Nat) (x y : Int) (h0 : 0 < c_abs y) : spec_MulSat.j2 (k + 2) x y (c_abs x) (c_abs y) = some (c_mulc x y) := by
  rw [spec_MulSat.j2, if_neg (by omega), c_quot h0]
  have hiff : c_abs x ≤ 1000000000000 / c_abs y ↔ c_abs x * c_abs y ≤ 1000000000000 := Int.le_ediv_iff_mul_le h0
  unfold c_mulc
  by_cases hf : c_abs x * c_abs y ≤ 1000000000000
  · have hn : ¬ c_abs x > 1000000000000 / c_abs y := by have := hiff.2 hf; omega
    rw [if_neg hn, if_pos hf, spec_MulSat.j3, if_neg (by decide), if_neg (by simpa using hn), c_mul_wrap hf]
  · have hn : c_abs x > 1000000000000 / c_abs y := by
      have : ¬ c_abs x ≤ 1000000000000 / c_abs y := fun h => hf (hiff.1 h)
      omega
    rw [if_pos hn, if_neg hf, spec_MulSat.j3]
    by_cases hs : (decide (x < 0) == decide (y < 0)) = true
    · rw [if_neg (by rw [bne, hs]; decide), if_pos (decide_eq_true hn), if_pos hs]
    · rw [if_pos (by rw [bne]; simp only [Bool.not_eq_true] at hs; rw [hs]; rfl), if_neg hs]
theorem c_sMulSat (k : Nat) (a b : Int) : spec_MulSat.f (k + 4) a b = some (c_mul a b) := by
  unfold spec_MulSat.f c_mul
  rw [c_l03Into, c_l03Into]
  simp only [Option.bind_some]
  obtain ⟨ha0, ha1⟩ := c_bnd_le a
  obtain ⟨hb0, hb1⟩ := c_bnd_le b
  generalize c_bnd a = x at *
  generalize c_bnd b = y at *
  by_cases hx : x = 0
  · rw [if_pos hx, spec_MulSat.j0, if_pos rfl]
    subst hx
    unfold c_mulc
    have e : c_abs 0 = 0 := rfl
    rw [e, Int.zero_mul, if_pos (by omega), Int.zero_mul]
  · rw [if_neg hx]
    by_cases hy : y = 0
    · rw [spec_MulSat.j0, if_pos (by simp [hy])]
      subst hy
      unfold c_mulc
      have e : c_abs 0 = 0 := rfl
      rw [e, Int.mul_zero, if_pos (by omega), Int.mul_zero]
    · have hy0 : 0 < c_abs y := by
        have := c_abs_nn y
        have := mt c_abs_zero.1 hy
        omega
      rw [spec_MulSat.j0, if_neg (by simp [hy])]
      have step : ∀ z, z = c_abs x → spec_MulSat.j1 (k + 3) x y z y = some (c_mulc x y) := by
        intro z hz
        subst hz
        rw [spec_MulSat.j1]
        by_cases hn : y < 0
        · rw [if_pos hn]
          have e : Aside0 (wrap64 (-y) = c_abs y) := ⟨by rw [c_wrap (by omega) (by omega)]; unfold c_abs; rw [if_pos hn]⟩
          rw [e.out, c_mul_j2 k x y hy0]
        · rw [if_neg hn]
          have e : c_abs y = y := by unfold c_abs; rw [if_neg hn]
          have := c_mul_j2 k x y hy0
          rw [e] at this
          exact this
      by_cases hn : x < 0
      · rw [if_pos hn]
        exact step _ (by rw [c_wrap (by omega) (by omega)]; unfold c_abs; rw [if_pos hn])
      · rw [if_neg hn]
        exact step _ (by unfold c_abs; rw [if_neg hn])

/-! ### the law -/
theorem FnExactMulSat : laws_FnExactMulSat.Pure := by
  intro a b _ _
  refine ⟨4, ?_⟩
  unfold laws_FnExactMulSat.f
  rw [c_sMulSat 0, c_iMulSat 3]
  simp

end Go.Proofs.Ytdbogijlpplcgaa.Pure
