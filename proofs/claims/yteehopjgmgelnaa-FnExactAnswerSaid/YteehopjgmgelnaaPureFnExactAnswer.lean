/- Answer of the program answers as the reference's Answer, in memory of its own, for every machine and number (the law itself answers true of a stack of more than 2^20). -/
import Derived.Test.YteehopjgmgelnaaMFnExactAnswerx0
import Derived.Test.YteehopjgmgelnaaMFnExactAnswerx1
import Derived.Test.YteehopjgmgelnaaMFnExactAnswerx2
import Derived.Test.YteehopjgmgelnaaMFnExactAnswerx3
import Derived.Test.YteehopjgmgelnaaMFnExactAnswerx4
namespace Go.Proofs.Yteehopjgmgelnaa.Pure
open Go.RowKit Go.Proofs.Yteehopjgmgelnaa.PFnExactAnswer Go.Proofs.YteehopjgmgelnaaW.PrintWords Go.Proofs.YteehopjgmgelnaaW.PrintLast
set_option linter.unusedVariables false
set_option linter.unusedSimpArgs false

/-! ### base -/
theorem c_wrap {n : Int} (h0 : -9223372036854775808 ≤ n) (h1 : n ≤ 9223372036854775807) : wrap64 n = n := by unfold wrap64; omega
theorem c_wf {n : Int} (h : (Lit.int .i64 n).wf = true) : -9223372036854775808 ≤ n ∧ n ≤ 9223372036854775807 := by
  simpa [Lit.wf, IntKind.min, IntKind.max, IntKind.signed, IntKind.bits] using h
theorem c_wf32 {n : Int} (h : (Lit.int .u32 n).wf = true) : 0 ≤ n ∧ n ≤ 4294967295 := by
  simpa [Lit.wf, IntKind.min, IntKind.max, IntKind.signed, IntKind.bits] using h
theorem c_up {k : Nat} (h : 0 < k) : ∃ m, k = m + 1 := ⟨k - 1, by omega⟩

/-! ### ints -/
theorem c_rd {l : List Int} {i : Nat} (h : i < l.length) : rd l (i : Int) = l[i]'h := by
  unfold rd
  simp [h]
theorem c_rd_app (pre : List Int) (a : Int) (l : List Int) : rd (pre ++ a :: l) (pre.length : Int) = a := by
  unfold rd
  simp
theorem c_inc {i n : Nat} (h : i < n) (hn : n ≤ 9223372036854775807) : wrap64 ((i : Int) + 1) = ((i + 1 : Nat) : Int) := by rw [c_wrap (by omega) (by omega)]; omega

/-! ### within -/
def c_in (n l h : Int) : Bool := decide (l ≤ n) && decide (n ≤ h)
theorem c_in_iff {n l h : Int} : c_in n l h = true ↔ l ≤ n ∧ n ≤ h := by simp [c_in]
theorem c_in_no {n l h : Int} : ¬ c_in n l h = true ↔ n < l ∨ h < n := by rw [c_in_iff]; omega

/-! ### within_s -/
theorem c_l01In (n l h : Int) : spec_l01In.f n l h = some (c_in n l h) := by
  unfold spec_l01In.f c_in
  by_cases h0 : n ≥ l
  · rw [if_pos h0]; simp [h0]
  · rw [if_neg h0]; simp; omega

/-! ### within_i -/
theorem c_within (n l h : Int) : impl_within.f n l h = some (c_in n l h) := by
  unfold impl_within.f c_in
  by_cases h0 : n ≥ l
  · rw [if_pos h0]; simp [h0]
  · rw [if_neg h0]; simp; omega

/-! ### eqints -/
theorem c_eqInts_l (l : List Int) (hl : l.length ≤ 9223372036854775807) (d : Nat) : ∀ (k i : Nat), l.length - i = d → i ≤ l.length → d < k → laws_eqIntS.l0 k l l i = some true := by
  induction d with
  | zero =>
    intro k i hd hi hk
    obtain ⟨k, rfl⟩ := c_up (k := k) (by omega)
    rw [laws_eqIntS.l0, if_neg (by omega)]
  | succ d ih =>
    intro k i hd hi hk
    obtain ⟨k, rfl⟩ := c_up (k := k) (by omega)
    rw [laws_eqIntS.l0, if_pos (by omega), if_pos (by omega), if_pos (by omega), if_pos rfl, c_inc (n := l.length) (by omega) hl]
    exact ih k (i + 1) (by omega) (by omega) (by omega)
theorem c_eqInts (l : List Int) (hl : l.length ≤ 9223372036854775807) (k : Nat) (hk : l.length < k) : laws_eqIntS.f k l l = some true := by
  unfold laws_eqIntS.f
  rw [if_pos rfl]
  exact c_eqInts_l l hl l.length k 0 (by omega) (by omega) hk

/-! ### cpuok -/
def c_words (l : List Int) : Bool := l.all fun x => c_in x 0 65535
def c_cpuOk (p : Int) (l : List Int) : Bool := c_in p 0 60 && decide (l.length ≤ 8) && c_words l
theorem c_isWord (x : Int) : impl_isWord.f x = some (c_in x 0 65535) := by
  unfold impl_isWord.f
  rw [c_within]
  rfl
theorem c_words_impl (l : List Int) (hl : l.length ≤ 1048576) (d : Nat) : ∀ (k i : Nat), l.length - i = d → i ≤ l.length → d < k → impl_wordsOk.l0 k l (l.length : Int) i = some (c_words (l.drop i)) := by
  induction d with
  | zero =>
    intro k i hd hi hk
    obtain ⟨k, rfl⟩ := c_up (k := k) (by omega)
    rw [impl_wordsOk.l0, if_neg (by omega), List.drop_eq_nil_of_le (by omega)]
    rfl
  | succ d ih =>
    intro k i hd hi hk
    obtain ⟨k, rfl⟩ := c_up (k := k) (by omega)
    have hd' : l.drop i = l[i]'(by omega) :: l.drop (i + 1) := List.drop_eq_getElem_cons (by omega)
    rw [impl_wordsOk.l0, if_pos (by omega), if_pos (by omega), if_pos (by omega), c_rd (by omega), c_isWord, c_inc (n := l.length) (by omega) (by omega), ih k (i + 1) (by omega) (by omega) (by omega), hd']
    simp only [Option.bind_some, c_words, List.all_cons]
    cases c_in (l[i]'(by omega)) 0 65535 <;> simp
theorem c_CpuOk_impl (p : Int) (l : List Int) (hl : l.length ≤ 1048576) (k : Nat) (hk : l.length < k) : impl_CpuOk.f k p l = some (c_cpuOk p l) := by
  have hw := c_words_impl l hl l.length k 0 (by omega) (by omega) hk
  rw [List.drop_zero] at hw
  have e0 : ((0 : Nat) : Int) = 0 := rfl
  rw [e0] at hw
  unfold impl_CpuOk.f impl_wordsOk.f c_cpuOk
  rw [c_within, hw]
  simp only [Option.bind_some]
  by_cases h1 : c_in p 0 60 = true
  · rw [if_pos h1, h1]
    by_cases h2 : l.length ≤ 8
    · rw [if_pos (by omega), decide_eq_true h2]; simp
    · rw [if_neg (by omega), decide_eq_false h2]; simp
  · rw [if_neg h1]
    simp at h1
    rw [h1]; simp
theorem c_words_spec (p : Int) (l : List Int) (hl : l.length ≤ 1048576) (d : Nat) : ∀ (k i : Nat), l.length - i = d → i ≤ l.length → d < k → spec_CpuOk.l0 k i p l = some (c_words (l.drop i) && (c_in p 0 60 && decide (l.length ≤ 8))) := by
  induction d with
  | zero =>
    intro k i hd hi hk
    obtain ⟨k, rfl⟩ := c_up (k := k) (by omega)
    rw [spec_CpuOk.l0, if_neg (by omega), List.drop_eq_nil_of_le (by omega), c_l01In]
    simp only [Option.bind_some]
    have hiff : decide ((l.length : Int) ≤ 8) = decide (l.length ≤ 8) := by simp; omega
    rw [hiff]
    cases c_in p 0 60 <;> simp [c_words]
  | succ d ih =>
    intro k i hd hi hk
    obtain ⟨k, rfl⟩ := c_up (k := k) (by omega)
    have hd' : l.drop i = l[i]'(by omega) :: l.drop (i + 1) := List.drop_eq_getElem_cons (by omega)
    rw [spec_CpuOk.l0, if_pos (by omega), if_pos (by omega), c_rd (by omega), c_l01In, c_inc (n := l.length) (by omega) (by omega), ih k (i + 1) (by omega) (by omega) (by omega), hd']
    simp only [Option.bind_some, c_words, List.all_cons]
    cases c_in (l[i]'(by omega)) 0 65535 <;> simp
theorem c_CpuOk_spec (p : Int) (l : List Int) (hl : l.length ≤ 1048576) (k : Nat) (hk : l.length < k) : spec_CpuOk.f k p l = some (c_cpuOk p l) := by
  have := c_words_spec p l hl l.length k 0 (by omega) (by omega) hk
  unfold spec_CpuOk.f c_cpuOk
  have e0 : ((0 : Nat) : Int) = 0 := rfl
  rw [e0, List.drop_zero, Bool.and_comm] at this
  exact this

/-! ### cellat -/
def c_at (n : Nat) (f z p : Int) : Int := if 0 ≤ p ∧ p < z ∧ 0 ≤ f ∧ p < (n : Int) - f then f + p else -1
theorem c_at_lt {n : Nat} {f z p : Int} : -1 ≤ c_at n f z p ∧ c_at n f z p < n := by unfold c_at; split <;> omega

/-! ### loadcell -/
def c_load (l : List Int) (f z p : Int) : Int × Bool := if c_at l.length f z p < 0 then (0, false) else (rd l (c_at l.length f z p), true)

/-! ### store -/
def c_mod (n : Int) : Int := n % 65536
theorem c_modulo (n : Int) : impl_modulo.f n 65536 = some (c_mod n) := by
  unfold impl_modulo.f c_mod
  have h : -65536 < Int.tmod n 65536 ∧ Int.tmod n 65536 < 65536 := ⟨by have := Int.lt_tmod_of_pos n (b := 65536) (by omega); omega, Int.tmod_lt_of_pos n (by omega)⟩
  have e : (Int.tmod n 65536) % 65536 = n % 65536 := by
    have := Int.tmod_add_mul_tdiv n 65536
    omega
  rw [if_neg (by omega), c_wrap (by omega) (by omega), Int.tmod_eq_emod_of_nonneg (by omega)]
  congr 1
  omega
theorem c_l04Mod (n : Int) : spec_l04Mod.f n = some (c_mod n) := by
  unfold spec_l04Mod.f c_mod
  have h : -65536 < Int.tmod n 65536 ∧ Int.tmod n 65536 < 65536 := ⟨by have := Int.lt_tmod_of_pos n (b := 65536) (by omega); omega, Int.tmod_lt_of_pos n (by omega)⟩
  have e : (Int.tmod n 65536) % 65536 = n % 65536 := by
    have := Int.tmod_add_mul_tdiv n 65536
    omega
  by_cases h0 : Int.tmod n 65536 < 0
  · rw [if_pos h0, c_wrap (by omega) (by omega)]
    congr 1
    omega
  · rw [if_neg h0]
    congr 1
    omega
theorem c_copyInts (l : List Int) (hl : l.length ≤ 1048576) : impl_copyInts.f l = some l := by
  unfold impl_copyInts.f
  simp only [Option.bind_some]
  rw [if_pos (by simp; omega), List.nil_append]
def c_store (l : List Int) (f z p n : Int) : List Int × Bool := if c_at l.length f z p < 0 then (l, false) else (l.set (c_at l.length f z p).toNat (c_mod n), true)
theorem c_store_len (l : List Int) (f z p n : Int) : (c_store l f z p n).1.length = l.length := by
  unfold c_store
  split
  · rfl
  · simp

/-! ### eqcpu -/
theorem c_eqCpu (p : Int) (l : List Int) (hl : l.length ≤ 9223372036854775807) (k : Nat) (hk : l.length < k) : laws_eqCpu.f k p l p l = some true := by
  unfold laws_eqCpu.f
  rw [if_pos rfl, c_eqInts l hl k hk]
  rfl

/-! ### toints -/
theorem c_szInts (l : List Int) (hl : l.length ≤ 9223372036854775807) : laws_szIntS.f l 1048576 = some (if l.length > 1048576 then -1 else 1048576 - (l.length : Int)) := by
  unfold laws_szIntS.f
  rw [c_wrap (by omega) (by omega)]
  by_cases h : l.length > 1048576
  · rw [if_pos (by omega), if_pos h]
  · rw [if_neg (by omega), if_neg h]
theorem c_szCpu (p : Int) (l : List Int) (hl : l.length ≤ 9223372036854775807) : laws_szCpu.f p l 1048576 = some (if l.length > 1048576 then -1 else 1048576 - (l.length : Int)) := by
  unfold laws_szCpu.f
  rw [c_szInts l hl]
  simp only [Option.bind_some]
  by_cases h : l.length > 1048576
  · rw [if_pos h, if_pos (by omega)]
  · rw [if_neg h, if_neg (by omega)]
theorem c_toInts_l (rest : List Int) : ∀ (k : Nat) (pre : List Int), pre.length + rest.length ≤ 9223372036854775807 → rest.length < k → laws_toIntS.l0 k (pre ++ rest) (pre ++ List.replicate rest.length 0) (pre.length : Int) = some (pre ++ rest) := by
  induction rest with
  | nil =>
    intro k pre hb hk
    obtain ⟨k, rfl⟩ := c_up (k := k) (by omega)
    rw [laws_toIntS.l0, if_neg (by simp)]
    simp
  | cons a rest ih =>
    intro k pre hb hk
    rw [List.length_cons] at hb hk
    obtain ⟨k, rfl⟩ := c_up (k := k) (by omega)
    have hset : (pre ++ List.replicate (a :: rest).length 0).set ((pre.length : Int)).toNat a = (pre ++ [a]) ++ List.replicate rest.length 0 := by
      rw [Int.toNat_natCast, List.set_append_right _ _ (by simp), Nat.sub_self, List.length_cons, List.replicate_succ, List.set_cons_zero, List.append_assoc]
      rfl
    have hw := Aside0.mk (c_inc (i := pre.length) (n := pre.length + 1) (by omega) (by omega))
    have := ih k (pre ++ [a]) (by rw [List.length_append, List.length_singleton]; omega) (by omega)
    rw [List.length_append, List.length_singleton, List.append_assoc pre [a] rest] at this
    rw [laws_toIntS.l0, if_pos (by rw [List.length_append, List.length_cons]; omega), if_pos (by omega), if_pos (by rw [List.length_append, List.length_replicate, List.length_cons]; omega), c_rd_app, hset, hw.out]
    exact this
theorem c_toInts (l : List Int) (hl : l.length ≤ 1048576) (k : Nat) (hk : l.length < k) : laws_toIntS.f k l = some l := by
  unfold laws_toIntS.f
  rw [if_pos (by omega), if_pos (by omega), Int.toNat_natCast]
  exact c_toInts_l l k [] (by simp; omega) hk
theorem c_toCpu (p : Int) (l : List Int) (hl : l.length ≤ 1048576) (k : Nat) (hk : l.length < k) : laws_toCpu.f k p l = some (p, l) := by
  unfold laws_toCpu.f
  rw [c_toInts l hl k hk]
  rfl

/-! ### markints -/
def c_seq (m : Int) (n : Nat) : List Int := (List.range n).map fun (i : Nat) => m + (i : Int)
theorem c_seq_len (m : Int) (n : Nat) : (c_seq m n).length = n := by simp [c_seq]
theorem c_seq_succ (m : Int) (n : Nat) : c_seq m (n + 1) = c_seq m n ++ [m + (n : Int)] := by simp [c_seq, List.range_succ]
theorem c_markInts_l (m : Int) (h0 : 0 ≤ m) (l : List Int) : ∀ (k i : Nat), m + (i : Int) + l.length ≤ 9223372036854775807 → l.length < k → laws_markIntS.l0 k (c_seq m i ++ l) (m + (i : Int)) i = some (m + (i : Int) + l.length, c_seq m (i + l.length)) := by
  induction l with
  | nil =>
    intro k i hb hk
    obtain ⟨k, rfl⟩ := c_up (k := k) (by omega)
    rw [List.append_nil, laws_markIntS.l0, if_neg (by rw [c_seq_len]; omega)]
    simp
  | cons a l ih =>
    intro k i hb hk
    rw [List.length_cons] at hb hk
    obtain ⟨k, rfl⟩ := c_up (k := k) (by omega)
    have hlen : (c_seq m i ++ a :: l).length = i + (l.length + 1) := by rw [List.length_append, c_seq_len, List.length_cons]
    have hset : (c_seq m i ++ a :: l).set ((i : Int)).toNat (m + (i : Int)) = c_seq m (i + 1) ++ l := by
      rw [Int.toNat_natCast, List.set_append_right _ _ (by rw [c_seq_len]; omega), c_seq_len, Nat.sub_self, List.set_cons_zero, c_seq_succ, List.append_assoc]
      rfl
    have e1 : m + (i : Int) + 1 = m + ((i + 1 : Nat) : Int) := by omega
    have := ih k (i + 1) (by omega) (by omega)
    rw [laws_markIntS.l0, if_pos (by rw [hlen]; omega), if_pos (by omega), hset, c_inc (n := 9223372036854775807) (by omega) (by omega), c_wrap (n := m + (i : Int) + 1) (by omega) (by omega), e1, this]
    congr 2
    · rw [List.length_cons]; omega
    · congr 1
      rw [List.length_cons]; omega
theorem c_markInts (l : List Int) (m : Int) (h0 : 0 ≤ m) (hb : m + l.length ≤ 9223372036854775807) (k : Nat) (hk : l.length < k) : laws_markIntS.f k l m = some (m + l.length, c_seq m l.length) := by
  have := c_markInts_l m h0 l k 0 (by omega) hk
  unfold laws_markIntS.f
  simpa [c_seq] using this
theorem c_heldInts_l (m : Int) (h0 : 0 ≤ m) (n : Nat) (hb : m + n ≤ 9223372036854775807) (d : Nat) : ∀ (k i : Nat), n - i = d → i ≤ n → d < k → laws_heldIntS.l0 k (c_seq m n) (m + (i : Int)) i = some (m + (n : Int)) := by
  induction d with
  | zero =>
    intro k i hd hi hk
    obtain ⟨k, rfl⟩ := c_up (k := k) (by omega)
    rw [laws_heldIntS.l0, if_neg (by rw [c_seq_len]; omega)]
    have : i = n := by omega
    rw [this]
  | succ d ih =>
    intro k i hd hi hk
    obtain ⟨k, rfl⟩ := c_up (k := k) (by omega)
    have hr : rd (c_seq m n) (i : Int) = m + (i : Int) := by
      rw [c_rd (by rw [c_seq_len]; omega)]
      simp [c_seq]
    have e1 : m + (i : Int) + 1 = m + ((i + 1 : Nat) : Int) := by omega
    have := ih k (i + 1) (by omega) (by omega) (by omega)
    rw [laws_heldIntS.l0, if_pos (by rw [c_seq_len]; omega), if_pos (by omega), if_pos hr, c_inc (n := n) (by omega) (by omega), c_wrap (n := m + (i : Int) + 1) (by omega) (by omega), e1, this]
theorem c_heldInts (m : Int) (h0 : 0 ≤ m) (n : Nat) (hb : m + n ≤ 9223372036854775807) (k : Nat) (hk : n < k) : laws_heldIntS.f k (c_seq m n) m = some (m + (n : Int)) := by
  have := c_heldInts_l m h0 n hb n k 0 (by omega) (by omega) hk
  unfold laws_heldIntS.f
  simpa using this

/-! ### answer -/
def c_answer (p : Int) (l : List Int) (n : Int) : Int × List Int × Bool := if c_cpuOk p l = true ∧ l.length ≠ 8 then (p, l ++ [c_mod n], true) else (p, l, false)
theorem c_answer_len (p : Int) (l : List Int) (n : Int) : (c_answer p l n).2.1.length ≤ l.length + 1 := by
  unfold c_answer
  split
  · simp
  · simp
theorem c_answer_pc (p : Int) (l : List Int) (n : Int) : (c_answer p l n).1 = p := by
  unfold c_answer
  split <;> rfl
theorem c_Answer_impl (p : Int) (l : List Int) (n : Int) (hl : l.length ≤ 1048576) (k : Nat) (hk : l.length < k) : impl_Answer.f k p l n = some (c_answer p l n) := by
  have hcopy : impl_copyCpu.f p l = some (p, l) := by
    unfold impl_copyCpu.f impl_copyInts.f
    simp only [Option.bind_some]
    rw [if_pos (by rw [List.length_nil]; omega), List.nil_append]
    rfl
  unfold impl_Answer.f c_answer
  rw [hcopy]
  simp only [Option.bind_some]
  rw [c_CpuOk_impl p l hl k hk]
  simp only [Option.bind_some]
  by_cases h1 : c_cpuOk p l = true
  · rw [if_pos h1]
    by_cases h2 : l.length = 8
    · rw [if_pos (by omega), if_neg (fun q => q.2 h2)]
    · rw [if_neg (by omega), if_pos ⟨h1, h2⟩, c_modulo n]
      simp only [Option.bind_some]
      rw [if_pos (by omega)]
  · rw [if_neg h1, if_neg (fun q => h1 q.1)]
theorem c_Answer_spec (p : Int) (l : List Int) (n : Int) (hl : l.length ≤ 1048576) (k : Nat) (hk : l.length < k) : spec_Answer.f k p l n = some (c_answer p l n) := by
  have hcopy : spec_l06Copy.f p l = some (p, l) := by
    unfold spec_l06Copy.f
    simp only [Option.bind_some]
    rw [if_pos (by rw [List.length_nil]; omega), List.nil_append]
  unfold spec_Answer.f c_answer
  rw [hcopy]
  simp only [Option.bind_some]
  rw [c_CpuOk_spec p l hl k hk]
  simp only [Option.bind_some]
  by_cases h1 : c_cpuOk p l = true
  · rw [if_pos h1]
    by_cases h2 : l.length = 8
    · rw [if_pos (by omega), if_neg (fun q => q.2 h2)]
    · rw [if_neg (by omega), if_pos ⟨h1, h2⟩, c_l04Mod n]
      simp only [Option.bind_some]
      rw [if_pos (by omega)]
  · rw [if_neg h1, if_neg (fun q => h1 q.1)]
theorem c_markCpu (p : Int) (l : List Int) (m : Int) (h0 : 0 ≤ m) (hb : m + l.length ≤ 9223372036854775807) (k : Nat) (hk : l.length < k) : laws_markCpu.f k p l m = some (m + l.length, c_seq m l.length) := by
  unfold laws_markCpu.f
  rw [c_markInts l m h0 hb k hk]
  rfl
theorem c_heldCpu (p m : Int) (h0 : 0 ≤ m) (n : Nat) (hb : m + n ≤ 9223372036854775807) (k : Nat) (hk : n < k) : laws_heldCpu.f k p (c_seq m n) m = some (m + (n : Int)) := by
  unfold laws_heldCpu.f
  rw [c_heldInts m h0 n hb k hk]
  simp only [Option.bind_some]
  rw [if_neg (by omega)]

/-! ### the law -/
theorem FnExactAnswer (p : Int) (_ : (Lit.int .i64 p).wf = true) (l : List Int) (hl : l.length ≤ maxLen) (_ : ∀ x ∈ l, (Lit.int .i64 x).wf = true) (n : Int) (_ : (Lit.int .i64 n).wf = true) : ∃ k, laws_FnExactAnswer.f k p l n = some true := by
  unfold maxLen at hl
  have hc := c_answer_len p l n
  refine ⟨l.length + 6, ?_⟩
  unfold laws_FnExactAnswer.f
  rw [c_szCpu p l hl]
  simp only [Option.bind_some]
  by_cases h : l.length > 1048576
  · rw [if_pos h, if_pos (by omega)]
  · rw [if_neg h, if_neg (by omega), c_toCpu p l (by omega) _ (by omega)]
    simp only [Option.bind_some]
    rw [c_Answer_spec p l n (by omega) _ (by omega), c_Answer_impl p l n (by omega) _ (by omega)]
    simp only [Option.bind_some]
    have hans := c_Answer_impl p l n (by omega)
    generalize c_answer p l n = r at *
    rw [c_eqCpu r.1 r.2.1 (by omega) _ (by omega)]
    simp only [Option.bind_some, if_true]
    rw [bne_self_eq_false, laws_FnExactAnswer.j0, if_neg (by decide), c_toCpu p l (by omega) _ (by omega)]
    simp only [Option.bind_some]
    rw [c_eqCpu p l (by omega) _ (by omega)]
    simp only [Option.bind_some, if_true]
    rw [c_markCpu p l 1 (by omega) (by omega) _ (by omega)]
    simp only [Option.bind_some]
    rw [if_neg (by omega), c_eqCpu r.1 r.2.1 (by omega) _ (by omega)]
    simp only [Option.bind_some, if_true]
    rw [bne_self_eq_false, laws_FnExactAnswer.j1, if_neg (by decide), c_markCpu r.1 r.2.1 1 (by omega) (by omega) _ (by omega)]
    simp only [Option.bind_some]
    rw [c_heldCpu r.1 1 (by omega) _ (by omega) _ (by omega)]
    simp only [Option.bind_some]
    rw [if_neg (by omega), if_true, c_toCpu p l (by omega) _ (by omega)]
    simp only [Option.bind_some]
    rw [hans _ (by omega)]
    simp only [Option.bind_some]
    rw [c_eqCpu r.1 r.2.1 (by omega) _ (by omega)]
    simp only [Option.bind_some, if_true]
    rw [bne_self_eq_false, laws_FnExactAnswer.j2, if_neg (by decide), c_heldCpu r.1 1 (by omega) _ (by omega) _ (by omega)]
    simp only [Option.bind_some]
    rw [if_neg (by omega), if_true]

end Go.Proofs.Yteehopjgmgelnaa.Pure
