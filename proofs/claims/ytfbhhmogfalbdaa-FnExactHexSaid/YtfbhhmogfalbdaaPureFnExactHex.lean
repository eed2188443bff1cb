/- Hex of the program answers as the reference's Hex, for every text (the law itself answers true of a text beyond 2^20 bytes). -/
import Derived.Test.YtfbhhmogfalbdaaMFnExactHexx1
namespace Go.Proofs.Ytfbhhmogfalbdaa.Pure
open Go.RowKit Go.Proofs.Ytfbhhmogfalbdaa.PFnExactHex Go.Proofs.YtfbhhmogfalbdaaW.PrintWords Go.Proofs.YtfbhhmogfalbdaaW.PrintLast
set_option linter.unusedVariables false
set_option linter.unusedSimpArgs false

/-! ### base -/
theorem c_wrap {n : Int} (h0 : -9223372036854775808 ≤ n) (h1 : n ≤ 9223372036854775807) : wrap64 n = n := by unfold wrap64; omega
theorem c_wf {n : Int} (h : (Lit.int .i64 n).wf = true) : -9223372036854775808 ≤ n ∧ n ≤ 9223372036854775807 := by
  simpa [Lit.wf, IntKind.min, IntKind.max, IntKind.signed, IntKind.bits] using h
theorem c_wf32 {n : Int} (h : (Lit.int .u32 n).wf = true) : 0 ≤ n ∧ n ≤ 4294967295 := by
  simpa [Lit.wf, IntKind.min, IntKind.max, IntKind.signed, IntKind.bits] using h
theorem c_up {k : Nat} (h : 0 < k) : ∃ m, k = m + 1 := ⟨k - 1, by omega⟩

/-! ### drop -/
theorem c_bt (s : ByteArray) (i : Nat) (h : i < s.size) : bt s (i : Int) = ((s[i]'h).toNat : Int) := by
  unfold bt
  simp [h]
theorem c_drop (s : ByteArray) (i : Nat) (h : i < s.size) : ∃ b : UInt8, bt s (i : Int) = (b.toNat : Int) ∧ s.data.toList.drop i = b :: s.data.toList.drop (i + 1) := by
  refine ⟨s[i]'h, c_bt s i h, ?_⟩
  rw [List.drop_eq_getElem_cons (by rw [data_length]; exact h)]
  rfl
theorem c_drop_end (s : ByteArray) (i : Nat) (h : s.size ≤ i) : s.data.toList.drop i = [] := List.drop_eq_nil_of_le (by rw [data_length]; exact h)

/-! ### hexfig -/
def c_fig (x : Int) : Int := if x < 10 then 48 + x else 87 + x
theorem c_cases16 {x : Int} (h0 : 0 ≤ x) (h1 : x < 16) : x = 0 ∨ x = 1 ∨ x = 2 ∨ x = 3 ∨ x = 4 ∨ x = 5 ∨ x = 6 ∨ x = 7 ∨ x = 8 ∨ x = 9 ∨ x = 10 ∨ x = 11 ∨ x = 12 ∨ x = 13 ∨ x = 14 ∨ x = 15 := by omega

/-! ### hexfig_s -/
theorem c_l01Figure {x : Int} (h0 : 0 ≤ x) (h1 : x < 16) : spec_l01Figure.f x = some (c_fig x) := by
  unfold spec_l01Figure.f c_fig wrap64
  by_cases h : x < 10
  · rw [if_pos h, if_pos h]; congr 1; omega
  · rw [if_neg h, if_neg h]; congr 1; omega

/-! ### hex -/
def c_hex (l : List UInt8) : List Int := l.flatMap fun b => [c_fig ((b.toNat : Int) / 16), c_fig ((b.toNat : Int) % 16)]
theorem c_hex_cons (b : UInt8) (l : List UInt8) : c_hex (b :: l) = [c_fig ((b.toNat : Int) / 16), c_fig ((b.toNat : Int) % 16)] ++ c_hex l := rfl
theorem c_hexbt {x : Int} (h0 : 0 ≤ x) (h1 : x < 16) : bt (⟨#[48, 49, 50, 51, 52, 53, 54, 55, 56, 57, 97, 98, 99, 100, 101, 102]⟩ : ByteArray) x = c_fig x := by
  rcases c_cases16 h0 h1 with rfl | rfl | rfl | rfl | rfl | rfl | rfl | rfl | rfl | rfl | rfl | rfl | rfl | rfl | rfl | rfl <;> rfl
theorem c_hexl_spec (s : ByteArray) (hs : s.size ≤ 20000) (d : Nat) : ∀ (k i : Nat) (acc : List Int), s.size - i = d → i ≤ s.size → d < k → acc.length + 2 * d < 140737488355328 → spec_Hex.l0 k s acc i = some (strOfNums (acc ++ c_hex (s.data.toList.drop i)), true) := by
  induction d with
  | zero =>
    intro k i acc hd hi hk hb
    obtain ⟨k, rfl⟩ := c_up (k := k) (by omega)
    simp only [spec_Hex.l0]
    rw [if_neg (by omega), c_drop_end s i (by omega)]
    simp [c_hex]
  | succ d ih =>
    intro k i acc hd hi hk hb
    obtain ⟨k, rfl⟩ := c_up (k := k) (by omega)
    obtain ⟨b, hb', hl⟩ := c_drop s i (by omega)
    have hlt := b.toNat_lt
    have f1 := c_l01Figure (x := (b.toNat : Int) / 16) (by omega) (by omega)
    have f2 := c_l01Figure (x := (b.toNat : Int) % 16) (by omega) (by omega)
    have q1 : (i : Int) < (s.size : Int) := by omega
    have q2 : 0 ≤ (i : Int) := by omega
    have w : wrap64 ((i : Int) + 1) = ((i + 1 : Nat) : Int) := by rw [c_wrap (by omega) (by omega)]; omega
    have e1 : wrap64 (Int.tdiv (wrap64 (b.toNat : Int)) 16) = (b.toNat : Int) / 16 := by
      rw [c_wrap (n := (b.toNat : Int)) (by omega) (by omega), Int.tdiv_eq_ediv_of_nonneg (by omega), c_wrap (by omega) (by omega)]
    have e2 : Int.tmod (wrap64 (b.toNat : Int)) 16 = (b.toNat : Int) % 16 := by
      rw [c_wrap (n := (b.toNat : Int)) (by omega) (by omega), Int.tmod_eq_emod_of_nonneg (by omega)]
    simp only [spec_Hex.l0]
    rw [if_pos q1, if_pos q2, hb', e1, e2, f1, f2]
    clear e1 e2 f1 f2
    simp only [Option.bind_some, List.length_cons, List.length_nil]
    rw [if_pos (by omega), w, ih k (i + 1) _ (by omega) (by omega) (by omega) (by simp; omega), hl, c_hex_cons, List.append_assoc]
theorem c_hexl_impl (s : ByteArray) (hs : s.size ≤ 20000) (d : Nat) : ∀ (k i : Nat) (acc : List Int), s.size - i = d → i ≤ s.size → d < k → acc.length + 2 * d < 140737488355328 → impl_Hex.l0 k s acc i = some (strOfNums (acc ++ c_hex (s.data.toList.drop i)), true) := by
  induction d with
  | zero =>
    intro k i acc hd hi hk hb
    obtain ⟨k, rfl⟩ := c_up (k := k) (by omega)
    simp only [impl_Hex.l0]
    rw [if_neg (by omega), c_drop_end s i (by omega)]
    simp [c_hex]
  | succ d ih =>
    intro k i acc hd hi hk hb
    obtain ⟨k, rfl⟩ := c_up (k := k) (by omega)
    obtain ⟨b, hb', hl⟩ := c_drop s i (by omega)
    have hlt := b.toNat_lt
    have w : wrap64 ((i : Int) + 1) = ((i + 1 : Nat) : Int) := by rw [c_wrap (by omega) (by omega)]; omega
    have e1 : (Int.tdiv (b.toNat : Int) 16) % 256 = (b.toNat : Int) / 16 := by
      rw [Int.tdiv_eq_ediv_of_nonneg (by omega)]; omega
    have e2 : Int.tmod (b.toNat : Int) 16 = (b.toNat : Int) % 16 := Int.tmod_eq_emod_of_nonneg (by omega)
    simp only [impl_Hex.l0]
    rw [if_pos (by omega), if_pos (by omega), hb', e1, e2, if_pos (by omega), if_pos (by omega), if_pos (by omega), if_pos (by omega), c_hexbt (by omega) (by omega), c_hexbt (by omega) (by omega)]
    simp only [Option.bind_some, List.length_cons, List.length_nil]
    rw [if_pos (by omega), w, ih k (i + 1) _ (by omega) (by omega) (by omega) (by simp; omega), hl, c_hex_cons, List.append_assoc]
theorem c_Hex_spec (s : ByteArray) (k : Nat) (hk : 20000 < k) : spec_Hex.f k s = some (if s.size > 20000 then ((⟨#[]⟩ : ByteArray), false) else (strOfNums (c_hex s.data.toList), true)) := by
  unfold spec_Hex.f
  by_cases h : s.size > 20000
  · rw [if_pos (by omega), if_pos h]
  · rw [if_neg (by omega), if_neg h]
    have := c_hexl_spec s (by omega) s.size k 0 [] (by omega) (by omega) (by omega) (by simp; omega)
    simpa using this
theorem c_Hex_impl (s : ByteArray) (k : Nat) (hk : 20000 < k) : impl_Hex.f k s = some (if s.size > 20000 then ((⟨#[]⟩ : ByteArray), false) else (strOfNums (c_hex s.data.toList), true)) := by
  unfold impl_Hex.f
  by_cases h : s.size > 20000
  · rw [if_pos (by omega), if_pos h]
  · rw [if_neg (by omega), if_neg h]
    have := c_hexl_impl s (by omega) s.size k 0 [] (by omega) (by omega) (by omega) (by simp; omega)
    simpa using this

/-! ### the law -/
theorem FnExactHex : laws_FnExactHex.Pure := by
  intro s _
  refine ⟨20001, ?_⟩
  unfold laws_FnExactHex.f
  by_cases h : (s.size : Int) > 1048576
  · rw [if_pos h]
  · rw [if_neg h, c_Hex_spec s _ (by omega), c_Hex_impl s _ (by omega)]
    simp only [Option.bind_some]
    simp

end Go.Proofs.Ytfbhhmogfalbdaa.Pure
