/- Unhex of the program answers as the reference's Unhex, for every text (the law itself answers true of one of more than 2^20 bytes). -/
import Derived.Test.YtdbogijlpplcgaaMFnExactUnhexx1
namespace Go.Proofs.Ytdbogijlpplcgaa.Pure
open Go.RowKit Go.Proofs.Ytdbogijlpplcgaa.PFnExactUnhex Go.Proofs.YtdbogijlpplcgaaW.PrintWords Go.Proofs.YtdbogijlpplcgaaW.PrintLast
set_option linter.unusedVariables false
set_option linter.unusedSimpArgs false

/-! ### base -/
theorem c_wrap {n : Int} (h0 : -9223372036854775808 ≤ n) (h1 : n ≤ 9223372036854775807) : wrap64 n = n := by unfold wrap64; omega
theorem c_wf {n : Int} (h : (Lit.int .i64 n).wf = true) : -9223372036854775808 ≤ n ∧ n ≤ 9223372036854775807 := by
  simpa [Lit.wf, IntKind.min, IntKind.max, IntKind.signed, IntKind.bits] using h
theorem c_wf32 {n : Int} (h : (Lit.int .u32 n).wf = true) : 0 ≤ n ∧ n ≤ 4294967295 := by
  simpa [Lit.wf, IntKind.min, IntKind.max, IntKind.signed, IntKind.bits] using h
theorem c_up {k : Nat} (h : 0 < k) : ∃ m, k = m + 1 := ⟨k - 1, by omega⟩

/-! ### drop -/
theorem c_bt (s : ByteArray) (i : Nat) (h : i < s.size) : bt s (i : Int) = ((s[i]'h).toNat : Int) := by
  unfold bt
  simp [h]
theorem c_drop (s : ByteArray) (i : Nat) (h : i < s.size) : ∃ b : UInt8, bt s (i : Int) = (b.toNat : Int) ∧ s.data.toList.drop i = b :: s.data.toList.drop (i + 1) := by
  refine ⟨s[i]'h, c_bt s i h, ?_⟩
  rw [List.drop_eq_getElem_cons (by rw [data_length]; exact h)]
  rfl
theorem c_drop_end (s : ByteArray) (i : Nat) (h : s.size ≤ i) : s.data.toList.drop i = [] := List.drop_eq_nil_of_le (by rw [data_length]; exact h)

/-! ### unhex -/
def c_val (x : Int) : Int := if 48 ≤ x ∧ x ≤ 57 then x - 48 else if 97 ≤ x ∧ x ≤ 102 then x - 87 else -1
theorem c_idx_all : (List.range 256).all (fun n => Lib.indexByte [48, 49, 50, 51, 52, 53, 54, 55, 56, 57, 97, 98, 99, 100, 101, 102] (n : Nat).toUInt8 == c_val (n : Int)) = true := by kernel_rfl
theorem c_idx (n : Nat) (h : n < 256) : strings_IndexByte.f (⟨#[48, 49, 50, 51, 52, 53, 54, 55, 56, 57, 97, 98, 99, 100, 101, 102]⟩ : ByteArray) (n : Int) = some (c_val (n : Int)) := by
  have := List.all_eq_true.1 c_idx_all n (List.mem_range.2 h)
  show some (Lib.indexByte [48, 49, 50, 51, 52, 53, 54, 55, 56, 57, 97, 98, 99, 100, 101, 102] (n : Int).toNat.toUInt8) = _
  rw [Int.toNat_natCast, eq_of_beq this]
theorem c_l01Value (n : Nat) (h : n < 256) (k : Nat) (hk : 0 < k) : spec_l01Value.f k (n : Int) = some (c_val (n : Int)) := by
  obtain ⟨k, rfl⟩ := c_up hk
  have w0 := Aside0.mk (c_wrap (n := (n : Int)) (by omega) (by omega))
  have w1 := Aside0.mk (c_wrap (n := (n : Int) - 48) (by omega) (by omega))
  have w2 := Aside0.mk (c_wrap (n := (n : Int) - 97) (by omega) (by omega))
  have w3 := Aside0.mk (c_wrap (n := (n : Int) - 97 + 10) (by omega) (by omega))
  unfold spec_l01Value.f c_val
  by_cases h1 : (n : Int) ≥ 48
  · rw [if_pos h1, spec_l01Value.j0, w0.out, w1.out, w2.out, w3.out]
    by_cases h2 : (n : Int) ≤ 57
    · rw [if_pos (decide_eq_true h2), if_pos ⟨h1, h2⟩]
    · rw [if_neg (by rw [decide_eq_true_iff]; exact h2), if_neg (c := 48 ≤ (n : Int) ∧ (n : Int) ≤ 57) (fun q => h2 q.2)]
      by_cases h3 : (n : Int) ≥ 97
      · rw [if_pos h3]
        by_cases h4 : (n : Int) ≤ 102
        · rw [if_pos h4, if_pos (c := 97 ≤ (n : Int) ∧ (n : Int) ≤ 102) ⟨h3, h4⟩]
          congr 1
          omega
        · rw [if_neg h4, if_neg (c := 97 ≤ (n : Int) ∧ (n : Int) ≤ 102) (fun q => h4 q.2)]
      · rw [if_neg h3, if_neg (c := 97 ≤ (n : Int) ∧ (n : Int) ≤ 102) (fun q => h3 q.1)]
  · rw [if_neg h1, spec_l01Value.j0, if_neg (by decide), if_neg (by omega), if_neg (by omega), if_neg (by omega)]
theorem c_val_le (n : Nat) : -1 ≤ c_val (n : Int) ∧ c_val (n : Int) ≤ 15 := by
  unfold c_val
  split
  · omega
  · split <;> omega
theorem c_unhex (s : ByteArray) (hs : s.size ≤ 40000) (d : Nat) : ∀ (i : Nat) (acc : List Int), s.size - i = 2 * d → i ≤ s.size → acc.length ≤ i → ∃ r, ∀ k, d + 1 < k → impl_Unhex.l0 k s acc i = some r ∧ spec_Unhex.l0 k s acc i = some r := by
  induction d with
  | zero =>
    intro i acc hd hi ha
    refine ⟨(strOfNums acc, true), fun k hk => ?_⟩
    obtain ⟨k, rfl⟩ := c_up (k := k) (by omega)
    rw [impl_Unhex.l0, spec_Unhex.l0, if_neg (by omega), if_neg (by omega)]
    exact ⟨rfl, rfl⟩
  | succ d ih =>
    intro i acc hd hi ha
    obtain ⟨a, ea, _⟩ := c_drop s i (by omega)
    obtain ⟨b, eb, _⟩ := c_drop s (i + 1) (by omega)
    have ha8 : a.toNat < 256 := a.toNat_lt
    have hb8 : b.toNat < 256 := b.toNat_lt
    have ga := c_val_le a.toNat
    have gb := c_val_le b.toNat
    have q1 : (i : Int) < (s.size : Int) := by omega
    have q2 : (0 : Int) ≤ (i : Int) := by omega
    have q3 : (0 : Int) ≤ ((i + 1 : Nat) : Int) := by omega
    have q4 : ((i + 1 : Nat) : Int) < (s.size : Int) := by omega
    have q5 : acc.length < 140737488355328 := by omega
    have w1 : Aside0 (wrap64 ((i : Int) + 1) = ((i + 1 : Nat) : Int)) := ⟨by rw [c_wrap (by omega) (by omega)]; omega⟩
    have w2 : Aside0 (wrap64 ((i : Int) + 2) = ((i + 2 : Nat) : Int)) := ⟨by rw [c_wrap (by omega) (by omega)]; omega⟩
    obtain ⟨r, hr⟩ := ih (i + 2) (acc ++ [(wrap64 ((wrap64 (16 * c_val (a.toNat : Int))) + c_val (b.toNat : Int))) % 256]) (by omega) (by omega) (by rw [List.length_append, List.length_singleton]; omega)
    by_cases h1 : c_val (a.toNat : Int) < 0
    · refine ⟨((⟨#[]⟩ : ByteArray), false), fun k hk => ?_⟩
      obtain ⟨k, rfl⟩ := c_up (k := k) (by omega)
      have hk0 : 0 < k := by omega
      rw [impl_Unhex.l0, spec_Unhex.l0, if_pos q1, if_pos q2, ea, c_idx _ ha8, if_pos q1, if_pos q2, c_l01Value _ ha8 k hk0]
      rw [Option.bind_some, Option.bind_some]
      rw [w1.out, if_pos q3, if_pos q4, eb, c_idx _ hb8, c_l01Value _ hb8 k hk0, if_pos q3, if_pos q4]
      rw [Option.bind_some, Option.bind_some]
      rw [if_pos h1, if_pos h1]
      exact ⟨rfl, rfl⟩
    · by_cases h2 : c_val (b.toNat : Int) < 0
      · refine ⟨((⟨#[]⟩ : ByteArray), false), fun k hk => ?_⟩
        obtain ⟨k, rfl⟩ := c_up (k := k) (by omega)
        have hk0 : 0 < k := by omega
        rw [impl_Unhex.l0, spec_Unhex.l0, if_pos q1, if_pos q2, ea, c_idx _ ha8, if_pos q1, if_pos q2, c_l01Value _ ha8 k hk0]
        rw [Option.bind_some, Option.bind_some]
        rw [w1.out, if_pos q3, if_pos q4, eb, c_idx _ hb8, c_l01Value _ hb8 k hk0, if_pos q3, if_pos q4]
        rw [Option.bind_some, Option.bind_some]
        rw [if_neg h1, if_pos h2, if_neg h1, if_pos h2]
        exact ⟨rfl, rfl⟩
      · refine ⟨r, fun k hk => ?_⟩
        obtain ⟨k, rfl⟩ := c_up (k := k) (by omega)
        have hk0 : 0 < k := by omega
        rw [impl_Unhex.l0, spec_Unhex.l0, if_pos q1, if_pos q2, ea, c_idx _ ha8, if_pos q1, if_pos q2, c_l01Value _ ha8 k hk0]
        rw [Option.bind_some, Option.bind_some]
        rw [w1.out, if_pos q3, if_pos q4, eb, c_idx _ hb8, c_l01Value _ hb8 k hk0, if_pos q3, if_pos q4]
        rw [Option.bind_some, Option.bind_some]
        rw [if_neg h1, if_neg h2, if_pos q5, w2.out, if_neg h1, if_neg h2, if_pos q5]
        exact hr k (by omega)
theorem c_Unhex (s : ByteArray) : ∃ r, ∀ k, 20002 < k → impl_Unhex.f k s = some r ∧ spec_Unhex.f k s = some r := by
  by_cases h1 : s.size > 40000
  · refine ⟨((⟨#[]⟩ : ByteArray), false), fun k hk => ?_⟩
    obtain ⟨k, rfl⟩ := c_up (k := k) (by omega)
    unfold impl_Unhex.f spec_Unhex.f
    rw [if_pos (c := (s.size : Int) > 40000) (by omega), spec_Unhex.j0, if_pos rfl]
    refine ⟨?_, rfl⟩
    by_cases h2 : ((s.size : Int) % 2) = 0
    · rw [if_pos h2, impl_Unhex.j0, if_pos (by rw [decide_eq_true_iff]; omega)]
    · rw [if_neg h2, impl_Unhex.j0, if_pos rfl]
  · by_cases h2 : ((s.size : Int) % 2) = 0
    · obtain ⟨r, hr⟩ := c_unhex s (by omega) (s.size / 2) 0 [] (by omega) (by omega) (by simp)
      refine ⟨r, fun k hk => ?_⟩
      obtain ⟨k, rfl⟩ := c_up (k := k) (by omega)
      unfold impl_Unhex.f spec_Unhex.f
      rw [if_neg (c := (s.size : Int) > 40000) (by omega), if_pos h2, spec_Unhex.j0, impl_Unhex.j0, if_neg (by rw [decide_eq_true_iff]; omega), h2, if_neg (by decide)]
      exact hr k (by omega)
    · refine ⟨((⟨#[]⟩ : ByteArray), false), fun k hk => ?_⟩
      obtain ⟨k, rfl⟩ := c_up (k := k) (by omega)
      unfold impl_Unhex.f spec_Unhex.f
      rw [if_neg (c := (s.size : Int) > 40000) (by omega), if_neg h2, spec_Unhex.j0, impl_Unhex.j0, if_pos rfl, if_pos (by simpa using h2)]
      exact ⟨rfl, rfl⟩

/-! ### the law -/
theorem FnExactUnhex : laws_FnExactUnhex.Pure := by
  intro s hs
  obtain ⟨r, hr⟩ := c_Unhex s
  refine ⟨20003, ?_⟩
  unfold laws_FnExactUnhex.f
  by_cases h : (s.size : Int) > 1048576
  · rw [if_pos h]
  · rw [if_neg h, (hr 20003 (by omega)).1, (hr 20003 (by omega)).2]
    simp only [Option.bind_some]
    rw [if_true, bne_self_eq_false, if_neg (by decide)]

end Go.Proofs.Ytdbogijlpplcgaa.Pure
