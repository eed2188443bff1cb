/- SumMore of the program answers as the reference's SumMore, for every sum and text (the law itself answers true of a text beyond 2^20 bytes). -/
import Derived.Test.YtfbhhmogfalbdaaPFnExactSumMorex1
namespace Go.Proofs.Ytfbhhmogfalbdaa.Pure
open Go.RowKit Go.Proofs.Ytfbhhmogfalbdaa.PFnExactSumMore Go.Proofs.YtfbhhmogfalbdaaW.PrintWords Go.Proofs.YtfbhhmogfalbdaaW.PrintLast
set_option linter.unusedVariables false
set_option linter.unusedSimpArgs false

/-! ### base -/
theorem c_wrap {n : Int} (h0 : -9223372036854775808 ≤ n) (h1 : n ≤ 9223372036854775807) : wrap64 n = n := by unfold wrap64; omega
theorem c_wf {n : Int} (h : (Lit.int .i64 n).wf = true) : -9223372036854775808 ≤ n ∧ n ≤ 9223372036854775807 := by
  simpa [Lit.wf, IntKind.min, IntKind.max, IntKind.signed, IntKind.bits] using h
theorem c_wf32 {n : Int} (h : (Lit.int .u32 n).wf = true) : 0 ≤ n ∧ n ≤ 4294967295 := by
  simpa [Lit.wf, IntKind.min, IntKind.max, IntKind.signed, IntKind.bits] using h
theorem c_up {k : Nat} (h : 0 < k) : ∃ m, k = m + 1 := ⟨k - 1, by omega⟩

/-! ### drop -/
theorem c_bt (s : ByteArray) (i : Nat) (h : i < s.size) : bt s (i : Int) = ((s[i]'h).toNat : Int) := by
  unfold bt
  simp [h]
theorem c_drop (s : ByteArray) (i : Nat) (h : i < s.size) : ∃ b : UInt8, bt s (i : Int) = (b.toNat : Int) ∧ s.data.toList.drop i = b :: s.data.toList.drop (i + 1) := by
  refine ⟨s[i]'h, c_bt s i h, ?_⟩
  rw [List.drop_eq_getElem_cons (by rw [data_length]; exact h)]
  rfl
theorem c_drop_end (s : ByteArray) (i : Nat) (h : s.size ≤ i) : s.data.toList.drop i = [] := List.drop_eq_nil_of_le (by rw [data_length]; exact h)

/-! ### summore -/
def c_odd (x : Int) : Int := if Int.tmod x 2 = 1 then Go.bits .xor .u32 ((Int.tdiv x 2) % 4294967296) 3558460437 else (Int.tdiv x 2) % 4294967296
def c_iter : Nat → Int → Int
  | 0, x => x
  | n + 1, x => c_iter n (c_odd x)
def c_crc (l : List UInt8) (x : Int) : Int := l.foldl (fun x b => c_iter 8 (Go.bits .xor .u32 x ((b.toNat : Int) % 4294967296))) x
theorem c_sum_in_spec (n : Nat) : ∀ (k : Nat) (x i : Int) (s : ByteArray), n ≤ 8 → spec_SumMore.l1 (k + n + 1) x s i (8 - n) = spec_SumMore.l0 k (c_iter n x) s (wrap64 (i + 1)) := by
  induction n with
  | zero => intro k x i s _; simp only [spec_SumMore.l1]; rw [if_neg (by omega)]; rfl
  | succ n ih =>
    intro k x i s hn
    have e : wrap64 (8 - ((n + 1 : Nat) : Int) + 1) = 8 - (n : Int) := by unfold wrap64; omega
    have e2 : k + (n + 1) + 1 = (k + n + 1) + 1 := by omega
    rw [e2, spec_SumMore.l1, if_pos (by omega), e, ih _ _ _ _ (by omega), ih _ _ _ _ (by omega)]
    simp only [c_iter, c_odd]
    split <;> rfl
theorem c_sum_spec (s : ByteArray) (hs : s.size ≤ 1048576) (d : Nat) : ∀ (k i : Nat) (x : Int), s.size - i = d → i ≤ s.size → 10 * d < k → spec_SumMore.l0 k x s i = some (c_crc (s.data.toList.drop i) x) := by
  induction d with
  | zero =>
    intro k i x hd hi hk
    obtain ⟨k, rfl⟩ := c_up (k := k) (by omega)
    simp only [spec_SumMore.l0]
    rw [if_neg (by omega), c_drop_end s i (by omega)]
    rfl
  | succ d ih =>
    intro k i x hd hi hk
    obtain ⟨k, rfl⟩ : ∃ m, k = (m + 8 + 1) + 1 := ⟨k - 10, by omega⟩
    obtain ⟨b, hb, hl⟩ := c_drop s i (by omega)
    simp only [spec_SumMore.l0]
    have e := c_sum_in_spec 8 k (Go.bits .xor .u32 x ((b.toNat : Int) % 4294967296)) i s (by omega)
    have z : (8 : Int) - ((8 : Nat) : Int) = 0 := by omega
    rw [z] at e
    have w : wrap64 ((i : Int) + 1) = ((i + 1 : Nat) : Int) := by rw [c_wrap (by omega) (by omega)]; omega
    rw [w] at e
    rw [if_pos (by omega), if_pos (by omega), hb, e, ih k (i + 1) _ (by omega) (by omega) (by omega), hl]
    rfl
theorem c_SumMore_spec (s : ByteArray) (hs : s.size ≤ 1048576) (k : Nat) (hk : 10 * s.size < k) (x : Int) : spec_SumMore.f k x s = some (c_crc s.data.toList x) := by
  unfold spec_SumMore.f
  have := c_sum_spec s hs s.size k 0 x (by omega) (by omega) hk
  simpa using this
theorem c_sum_in_impl (n : Nat) : ∀ (k : Nat) (x i : Int) (s : ByteArray), n ≤ 8 → impl_SumMore.l1 (k + n + 1) x s i (8 - n) = impl_SumMore.l0 k (c_iter n x) s (wrap64 (i + 1)) := by
  induction n with
  | zero => intro k x i s _; simp only [impl_SumMore.l1]; rw [if_neg (by omega)]; rfl
  | succ n ih =>
    intro k x i s hn
    have e : wrap64 (8 - ((n + 1 : Nat) : Int) + 1) = 8 - (n : Int) := by unfold wrap64; omega
    have e2 : k + (n + 1) + 1 = (k + n + 1) + 1 := by omega
    rw [e2, impl_SumMore.l1, if_pos (by omega), e, ih _ _ _ _ (by omega), ih _ _ _ _ (by omega)]
    simp only [c_iter, c_odd]
    split <;> rfl
theorem c_sum_impl (s : ByteArray) (hs : s.size ≤ 1048576) (d : Nat) : ∀ (k i : Nat) (x : Int), s.size - i = d → i ≤ s.size → 10 * d < k → impl_SumMore.l0 k x s i = some (c_crc (s.data.toList.drop i) x) := by
  induction d with
  | zero =>
    intro k i x hd hi hk
    obtain ⟨k, rfl⟩ := c_up (k := k) (by omega)
    simp only [impl_SumMore.l0]
    rw [if_neg (by omega), c_drop_end s i (by omega)]
    rfl
  | succ d ih =>
    intro k i x hd hi hk
    obtain ⟨k, rfl⟩ : ∃ m, k = (m + 8 + 1) + 1 := ⟨k - 10, by omega⟩
    obtain ⟨b, hb, hl⟩ := c_drop s i (by omega)
    simp only [impl_SumMore.l0]
    have e := c_sum_in_impl 8 k (Go.bits .xor .u32 x ((b.toNat : Int) % 4294967296)) i s (by omega)
    have z : (8 : Int) - ((8 : Nat) : Int) = 0 := by omega
    rw [z] at e
    have w : wrap64 ((i : Int) + 1) = ((i + 1 : Nat) : Int) := by rw [c_wrap (by omega) (by omega)]; omega
    rw [w] at e
    rw [if_pos (by omega), if_pos (by omega), hb, e, ih k (i + 1) _ (by omega) (by omega) (by omega), hl]
    rfl
theorem c_SumMore_impl (s : ByteArray) (hs : s.size ≤ 1048576) (k : Nat) (hk : 10 * s.size < k) (x : Int) : impl_SumMore.f k x s = some (c_crc s.data.toList x) := by
  unfold impl_SumMore.f
  have := c_sum_impl s hs s.size k 0 x (by omega) (by omega) hk
  simpa using this

/-! ### the law -/
theorem FnExactSumMore : laws_FnExactSumMore.Pure := by
  intro x s _ _
  refine ⟨10 * s.size + 1, ?_⟩
  unfold laws_FnExactSumMore.f
  by_cases h : (s.size : Int) > 1048576
  · rw [if_pos h]
  · rw [if_neg h, c_SumMore_spec s (by omega) _ (by omega), c_SumMore_impl s (by omega) _ (by omega)]
    simp only [Option.bind_some]
    simp

end Go.Proofs.Ytfbhhmogfalbdaa.Pure
