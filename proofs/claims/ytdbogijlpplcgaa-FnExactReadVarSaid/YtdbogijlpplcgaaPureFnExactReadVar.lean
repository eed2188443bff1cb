/- ReadVar of the program answers as the reference's ReadVar, for every text and place (the law itself answers true of a text beyond 2^20 bytes). -/
import Derived.Test.YtdbogijlpplcgaaPFnExactReadVarx2
namespace Go.Proofs.Ytdbogijlpplcgaa.Pure
open Go.RowKit Go.Proofs.Ytdbogijlpplcgaa.PFnExactReadVar Go.Proofs.YtdbogijlpplcgaaW.PrintWords Go.Proofs.YtdbogijlpplcgaaW.PrintLast
set_option linter.unusedVariables false
set_option linter.unusedSimpArgs false

/-! ### base -/
theorem c_wrap {n : Int} (h0 : -9223372036854775808 ≤ n) (h1 : n ≤ 9223372036854775807) : wrap64 n = n := by unfold wrap64; omega
theorem c_wf {n : Int} (h : (Lit.int .i64 n).wf = true) : -9223372036854775808 ≤ n ∧ n ≤ 9223372036854775807 := by
  simpa [Lit.wf, IntKind.min, IntKind.max, IntKind.signed, IntKind.bits] using h
theorem c_wf32 {n : Int} (h : (Lit.int .u32 n).wf = true) : 0 ≤ n ∧ n ≤ 4294967295 := by
  simpa [Lit.wf, IntKind.min, IntKind.max, IntKind.signed, IntKind.bits] using h
theorem c_up {k : Nat} (h : 0 < k) : ∃ m, k = m + 1 := ⟨k - 1, by omega⟩

/-! ### vartext -/
def c_var : Nat → Nat → List Int
  | 0, n => [(n : Int)]
  | j + 1, n => if n > 127 then ((n % 128 + 128 : Nat) : Int) :: c_var j (n / 128) else [(n : Int)]
theorem c_var_length (j : Nat) : ∀ n, (c_var j n).length ≤ j + 1 := by
  induction j with
  | zero => intro n; simp [c_var]
  | succ j ih =>
    intro n
    unfold c_var
    split
    · have := ih (n / 128); simp; omega
    · simp
theorem c_var_div {j n : Nat} (h : n < 128 ^ (j + 2)) : n / 128 < 128 ^ (j + 1) := by
  rw [Nat.pow_succ] at h
  exact Nat.div_lt_of_lt_mul (by rw [Nat.mul_comm]; exact h)
theorem c_var_step {n : Nat} (h : n ≤ 9223372036854775807) : wrap64 (Int.tdiv (n : Int) 128) = ((n / 128 : Nat) : Int) ∧ (wrap64 (Int.tmod (n : Int) 128 + 128)) % 256 = ((n % 128 + 128 : Nat) : Int) := by
  rw [Int.tdiv_eq_ediv_of_nonneg (by omega), Int.tmod_eq_emod_of_nonneg (by omega), c_wrap (by omega) (by omega), c_wrap (by omega) (by omega)]
  omega

/-! ### drop -/
theorem c_bt (s : ByteArray) (i : Nat) (h : i < s.size) : bt s (i : Int) = ((s[i]'h).toNat : Int) := by
  unfold bt
  simp [h]
theorem c_drop (s : ByteArray) (i : Nat) (h : i < s.size) : ∃ b : UInt8, bt s (i : Int) = (b.toNat : Int) ∧ s.data.toList.drop i = b :: s.data.toList.drop (i + 1) := by
  refine ⟨s[i]'h, c_bt s i h, ?_⟩
  rw [List.drop_eq_getElem_cons (by rw [data_length]; exact h)]
  rfl
theorem c_drop_end (s : ByteArray) (i : Nat) (h : s.size ≤ i) : s.data.toList.drop i = [] := List.drop_eq_nil_of_le (by rw [data_length]; exact h)

/-! ### bytes -/
theorem c_toList (s : ByteArray) : s.toList = s.data.toList := ByteArray.toList_eq s
theorem c_extract (s : ByteArray) (a b : Nat) : (s.extract a b).data.toList = (s.data.toList.take b).drop a := by
  simp [ByteArray.data_extract, Array.toList_extract, List.extract_eq_take_drop, List.drop_take]
theorem c_ext {s t : ByteArray} (h : s.data.toList = t.data.toList) : s = t := by
  cases s; cases t; congr; exact Array.toList_inj.1 h

/-! ### readvar -/
def c_rv : Nat → Nat → Nat → List UInt8 → Option (Nat × Nat)
  | 0, _, _, _ => none
  | _ + 1, _, _, [] => none
  | j + 1, i, n, b :: l => if b.toNat > 127 then c_rv j (i + 1) (n + b.toNat % 128 * 128 ^ i) l else if (0 < i ∧ b.toNat = 0) ∨ n + b.toNat % 128 * 128 ^ i > 1000000000 then none else some (n + b.toNat % 128 * 128 ^ i, i + 1)
def c_rvo (start : Int) : Option (Nat × Nat) → Int × Int × Bool
  | none => (0, 0, false)
  | some p => ((p.1 : Int), start + (p.2 : Int), true)
theorem c_rv_some (j : Nat) : ∀ (i n : Nat) (l : List UInt8) (p : Nat × Nat), c_rv j i n l = some p → p.1 ≤ 1000000000 ∧ i < p.2 ∧ p.2 ≤ i + l.length := by
  induction j with
  | zero => intro i n l p h; simp [c_rv] at h
  | succ j ih =>
    intro i n l p h
    cases l with
    | nil => simp [c_rv] at h
    | cons b l =>
      rw [c_rv] at h
      split at h
      · obtain ⟨h1, h2, h3⟩ := ih _ _ _ _ h
        refine ⟨h1, by omega, ?_⟩
        rw [List.length_cons]
        omega
      · split at h
        · simp at h
        · rename_i h0
          injection h with h
          subst h
          refine ⟨by simp only; omega, by simp only; omega, ?_⟩
          rw [List.length_cons]
          simp only
          omega
theorem c_pw (i : Nat) (h : i < 5) : 128 ^ i = 1 ∧ i = 0 ∨ 128 ^ i = 128 ∧ i = 1 ∨ 128 ^ i = 16384 ∧ i = 2 ∨ 128 ^ i = 2097152 ∧ i = 3 ∨ 128 ^ i = 268435456 ∧ i = 4 := by
  have : i = 0 ∨ i = 1 ∨ i = 2 ∨ i = 3 ∨ i = 4 := by omega
  rcases this with rfl | rfl | rfl | rfl | rfl <;> simp
theorem c_next {n b i : Nat} (h : n < 128 ^ i) : n + b % 128 * 128 ^ i < 128 ^ (i + 1) := by
  rw [Nat.pow_succ]
  have h1 : b % 128 ≤ 127 := by omega
  have h2 : b % 128 * 128 ^ i ≤ 127 * 128 ^ i := Nat.mul_le_mul_right _ h1
  omega
theorem c_small {n i : Nat} (hi : i < 5) (h : n < 128 ^ (i + 1)) : n < 34359738368 := by
  have h1 : 128 ^ (i + 1) ≤ 128 ^ 5 := Nat.pow_le_pow_right (by omega) (by omega)
  omega

/-! ### within -/
def c_in (n l h : Int) : Bool := decide (l ≤ n) && decide (n ≤ h)
theorem c_in_iff {n l h : Int} : c_in n l h = true ↔ l ≤ n ∧ n ≤ h := by simp [c_in]
theorem c_in_no {n l h : Int} : ¬ c_in n l h = true ↔ n < l ∨ h < n := by rw [c_in_iff]; omega

/-! ### within_i -/
theorem c_within (n l h : Int) : impl_within.f n l h = some (c_in n l h) := by
  unfold impl_within.f c_in
  by_cases h0 : n ≥ l
  · rw [if_pos h0]; simp [h0]
  · rw [if_neg h0]; simp; omega

/-! ### readvar_i -/
theorem c_shl {x i : Nat} (hi : i < 5) (hx : x < 128) : shl .i64 (x : Int) (7 * (i : Int)) = ((x * 128 ^ i : Nat) : Int) := by
  have hm : min (7 * (i : Int)).toNat IntKind.i64.bits = 7 * i := by
    have : IntKind.i64.bits = 64 := rfl
    rw [this]
    omega
  unfold shl
  rw [hm, IntKind.wrap_i64]
  rcases c_pw i hi with ⟨e, rfl⟩ | ⟨e, rfl⟩ | ⟨e, rfl⟩ | ⟨e, rfl⟩ | ⟨e, rfl⟩ <;> rw [e] <;> simp <;> omega
theorem c_rv_impl (s : ByteArray) (hs : s.size ≤ 1048576) (p : Nat) (j : Nat) : ∀ (k i n : Nat), i + j = 5 → p + i ≤ s.size → n < 128 ^ i → 2 * j + 2 ≤ k → impl_ReadVar.l0 k s p n i = some (c_rvo p (c_rv j i n (s.data.toList.drop (p + i)))) := by
  induction j with
  | zero =>
    intro k i n hi hp hn hk
    obtain ⟨k, rfl⟩ : ∃ m, k = m + 2 := ⟨k - 2, by omega⟩
    rw [impl_ReadVar.l0, if_neg (by omega), impl_ReadVar.j1, if_neg (by decide)]
    rfl
  | succ j ih =>
    intro k i n hi hp hn hk
    obtain ⟨k, rfl⟩ : ∃ m, k = m + 2 := ⟨k - 2, by omega⟩
    have hi5 : i < 5 := by omega
    have e0 : Aside0 (wrap64 ((p : Int) + (i : Int)) = ((p + i : Nat) : Int)) := ⟨by rw [c_wrap (by omega) (by omega)]; omega⟩
    rw [impl_ReadVar.l0, if_pos (by omega), e0.out]
    clear e0
    by_cases hlt : p + i < s.size
    · obtain ⟨b, hb, hl⟩ := c_drop s (p + i) hlt
      have hb8 := b.toNat_lt
      have hsh := c_shl (x := b.toNat % 128) hi5 (by omega)
      have hnx := c_small hi5 (c_next (b := b.toNat) hn)
      have hnx2 := c_next (b := b.toNat) hn
      rw [impl_ReadVar.j1, if_pos (by simp; omega)]
      have e0 : Aside0 (wrap64 ((p : Int) + (i : Int)) = ((p + i : Nat) : Int)) := ⟨by rw [c_wrap (by omega) (by omega)]; omega⟩
      have e1 : Aside0 (wrap64 (7 * (i : Int)) = 7 * (i : Int)) := ⟨c_wrap (by omega) (by omega)⟩
      have e2 : Aside0 (wrap64 (b.toNat : Int) = (b.toNat : Int)) := ⟨c_wrap (by omega) (by omega)⟩
      have e3 : Int.tmod (b.toNat : Int) 128 = ((b.toNat % 128 : Nat) : Int) := by rw [Int.tmod_eq_emod_of_nonneg (by omega)]; omega
      have e4 : Aside0 (wrap64 ((n : Int) + ((b.toNat % 128 * 128 ^ i : Nat) : Int)) = ((n + b.toNat % 128 * 128 ^ i : Nat) : Int)) := ⟨by rw [c_wrap (by omega) (by omega)]; omega⟩
      have e5 : Aside0 (wrap64 ((i : Int) + 1) = ((i + 1 : Nat) : Int)) := ⟨by rw [c_wrap (by omega) (by omega)]; omega⟩
      have e6 : Aside0 (wrap64 (((p + i : Nat) : Int) + 1) = (p : Int) + ((i + 1 : Nat) : Int)) := ⟨by rw [c_wrap (by omega) (by omega)]; omega⟩
      rw [e0.out, e1.out, hb, e2.out, e3, hsh, e4.out, e5.out, e6.out, hl, c_rv]
      clear e0 e1 e2 e3 e4 e5 e6 hsh hb hl
      rw [if_pos (by omega), if_pos (by omega), if_pos (by omega)]
      by_cases hc : b.toNat > 127
      · rw [if_pos (by omega), if_pos hc, ih k (i + 1) _ (by omega) (by omega) hnx2 (by omega)]
        rfl
      · rw [if_neg (by omega), if_neg hc]
        by_cases h0 : 0 < i
        · rw [if_pos (by omega)]
          by_cases hz : b.toNat = 0
          · rw [if_pos (by omega), if_pos (Or.inl ⟨h0, hz⟩)]; rfl
          · rw [if_neg (by omega)]
            by_cases hm : n + b.toNat % 128 * 128 ^ i > 1000000000
            · rw [if_pos (by omega), if_pos (Or.inr hm)]; rfl
            · rw [if_neg (by omega), if_neg (by omega)]; rfl
        · rw [if_neg (by omega)]
          by_cases hm : n + b.toNat % 128 * 128 ^ i > 1000000000
          · rw [if_pos (by omega), if_pos (Or.inr hm)]; rfl
          · rw [if_neg (by omega), if_neg (by omega)]; rfl
    · rw [impl_ReadVar.j1, if_neg (by simp; omega), c_drop_end s (p + i) (by omega)]
      rfl
def c_readVar (s : ByteArray) (p : Int) : Int × Int × Bool := if c_in p 0 s.size = true then c_rvo p (c_rv 5 0 0 (s.data.toList.drop p.toNat)) else (0, 0, false)
theorem c_iReadVar (s : ByteArray) (hs : s.size ≤ 1048576) (p : Int) (k : Nat) (hk : 12 ≤ k) : impl_ReadVar.f k s p = some (c_readVar s p) := by
  unfold impl_ReadVar.f c_readVar
  rw [c_within]
  simp only [Option.bind_some]
  by_cases h : c_in p 0 s.size = true
  · rw [if_pos h, if_pos h]
    rw [c_in_iff] at h
    obtain ⟨q, rfl⟩ := Int.eq_ofNat_of_zero_le h.1
    exact c_rv_impl s hs q 5 k 0 0 (by omega) (by omega) (by omega) (by omega)
  · rw [if_neg h, if_neg h]

/-! ### vartext_s -/
theorem c_var_spec (j : Nat) : ∀ (k n : Nat) (acc : List Int), n < 128 ^ (j + 1) → n ≤ 9223372036854775807 → acc.length + j < 140737488355328 → j < k → spec_l01Var.l0 k n acc = some (strOfNums (acc ++ c_var j n)) := by
  induction j with
  | zero =>
    intro k n acc hn hm hl hk
    obtain ⟨k, rfl⟩ := c_up (k := k) (by omega)
    simp only [spec_l01Var.l0]
    rw [if_neg (by omega), if_pos (by omega), c_var]
    congr 3
    simp
    omega
  | succ j ih =>
    intro k n acc hn hm hl hk
    obtain ⟨k, rfl⟩ := c_up (k := k) (by omega)
    obtain ⟨e1, e2⟩ := c_var_step hm
    simp only [spec_l01Var.l0]
    by_cases h : n > 127
    · rw [if_pos (by omega), if_pos (by omega), e1, e2, ih k _ _ (c_var_div hn) (by omega) (by simp; omega) (by omega), c_var, if_pos h, List.append_assoc]
      rfl
    · rw [if_neg (by omega), if_pos (by omega), c_var, if_neg h]
      congr 3
      simp
      omega
theorem c_l01Var {n : Nat} (h : n ≤ 1000000000) {k : Nat} (hk : 4 < k) : spec_l01Var.f k n = some (strOfNums (c_var 4 n)) := by
  have := c_var_spec 4 k n [] (by omega) (by omega) (by simp) hk
  simpa [spec_l01Var.f] using this

/-! ### within_s -/
theorem c_l01In (n l h : Int) : spec_l01In.f n l h = some (c_in n l h) := by
  unfold spec_l01In.f c_in
  by_cases h0 : n ≥ l
  · rw [if_pos h0]; simp [h0]
  · rw [if_neg h0]; simp; omega

/-! ### readvar_s -/
def c_val : List UInt8 → Nat
  | [] => 0
  | b :: l => b.toNat % 128 + 128 * c_val l
theorem c_val_snoc (l : List UInt8) (b : UInt8) : c_val (l ++ [b]) = c_val l + b.toNat % 128 * 128 ^ l.length := by
  induction l with
  | nil => simp [c_val]
  | cons a l ih =>
    rw [List.cons_append, c_val, ih, c_val, List.length_cons, Nat.pow_succ, Nat.mul_add, Nat.add_assoc, Nat.mul_left_comm 128, Nat.mul_comm 128 (128 ^ l.length)]
theorem c_val_lt (l : List UInt8) : c_val l < 128 ^ l.length := by
  induction l with
  | nil => simp [c_val]
  | cons a l ih => rw [c_val, List.length_cons, Nat.pow_succ]; omega
theorem c_val_pos (l : List UInt8) (b : UInt8) (h : b.toNat ≠ 0) (h1 : ¬ b.toNat > 127) : 0 < c_val (l ++ [b]) := by
  induction l with
  | nil => simp [c_val]; omega
  | cons a l ih => rw [List.cons_append, c_val]; omega
theorem c_var_len (j : Nat) : ∀ (i m : Nat), m < 128 ^ i → 1 ≤ i → (c_var j m).length ≤ i := by
  induction j with
  | zero => intro i m _ hi; simp [c_var]; omega
  | succ j ih =>
    intro i m hm hi
    unfold c_var
    split
    · rename_i h
      obtain ⟨i, rfl⟩ : ∃ q, i = q + 1 := ⟨i - 1, by omega⟩
      have : 1 ≤ i := by
        rcases Nat.eq_zero_or_pos i with rfl | h'
        · simp at hm; omega
        · exact h'
      obtain ⟨i, rfl⟩ : ∃ q, i = q + 1 := ⟨i - 1, by omega⟩
      have := ih (i + 1) (m / 128) (c_var_div hm) (by omega)
      rw [List.length_cons]
      omega
    · simp; omega
def c_varB (j m : Nat) : List UInt8 := (c_var j m).map fun n => UInt8.ofNat n.toNat
theorem c_varB_str (j m : Nat) : (strOfNums (c_var j m)).data.toList = c_varB j m := rfl
theorem c_canon (pre : List UInt8) : ∀ (j : Nat) (b : UInt8), pre.length ≤ j → (∀ a ∈ pre, a.toNat > 127) → ¬ b.toNat > 127 → (pre = [] ∨ b.toNat ≠ 0) → c_varB j (c_val (pre ++ [b])) = pre ++ [b] := by
  induction pre with
  | nil =>
    intro j b _ _ hb _
    have e : c_val ([] ++ [b]) = b.toNat := by simp [c_val]; omega
    rw [e]
    unfold c_varB
    cases j with
    | zero => simp [c_var]
    | succ j => rw [c_var, if_neg hb]; simp
  | cons a pre ih =>
    intro j b hj ha hb h0
    obtain ⟨j, rfl⟩ : ∃ q, j = q + 1 := ⟨j - 1, by rw [List.length_cons] at hj; omega⟩
    have hne : b.toNat ≠ 0 := by
      rcases h0 with h0 | h0
      · simp at h0
      · exact h0
    have hp := c_val_pos pre b hne hb
    have ha1 := ha a (by simp)
    have ha2 := a.toNat_lt
    rw [List.cons_append, c_val]
    have hgt : a.toNat % 128 + 128 * c_val (pre ++ [b]) > 127 := by omega
    have e1 : (a.toNat % 128 + 128 * c_val (pre ++ [b])) / 128 = c_val (pre ++ [b]) := by omega
    have e2 : (a.toNat % 128 + 128 * c_val (pre ++ [b])) % 128 + 128 = a.toNat := by omega
    have := ih j b (by rw [List.length_cons] at hj; omega) (fun x hx => ha x (by simp [hx])) hb (Or.inr hne)
    unfold c_varB at this ⊢
    rw [c_var, if_pos hgt, e1, e2, List.map_cons, this]
    simp
theorem c_canon_no (pre : List UInt8) (j : Nat) (b : UInt8) (h0 : pre ≠ []) (hb : b.toNat = 0) : c_varB j (c_val (pre ++ [b])) ≠ pre ++ [b] := by
  intro h
  have hl := congrArg List.length h
  have hp : 1 ≤ pre.length := by
    cases pre with
    | nil => simp at h0
    | cons => simp
  have hm : c_val (pre ++ [b]) < 128 ^ pre.length := by
    rw [c_val_snoc, hb]
    simpa using c_val_lt pre
  have := c_var_len j pre.length _ hm hp
  unfold c_varB at hl
  rw [List.length_map, List.length_append, List.length_singleton] at hl
  omega
theorem c_rv_spec (s : ByteArray) (hs : s.size ≤ 1048576) (p : Nat) (j : Nat) : ∀ (k i : Nat) (pre : List UInt8), i + j = 5 → p + i ≤ s.size → pre.length = i → pre ++ s.data.toList.drop (p + i) = s.data.toList.drop p → (∀ a ∈ pre, a.toNat > 127) → 2 * j + 8 ≤ k →
    spec_ReadVar.l0 k s p (c_val pre) ((128 ^ i : Nat) : Int) ((p + i : Nat) : Int) = some (c_rvo p (c_rv j i (c_val pre) (s.data.toList.drop (p + i)))) := by
  induction j with
  | zero =>
    intro k i pre hi hp hl hpre hall hk
    obtain ⟨k, rfl⟩ : ∃ m, k = m + 2 := ⟨k - 2, by omega⟩
    have e5 : Aside0 (wrap64 ((p : Int) + 5) = (p : Int) + 5) := ⟨c_wrap (by omega) (by omega)⟩
    rw [spec_ReadVar.l0, e5.out]
    clear e5
    have hz : decide (((p + i : Nat) : Int) < (p : Int) + 5) = false := by simp; omega
    rw [hz]
    have : (if ((p + i : Nat) : Int) < (s.size : Int) then spec_ReadVar.j1 (k + 1) s p (c_val pre) ((128 ^ i : Nat) : Int) ((p + i : Nat) : Int) false else spec_ReadVar.j1 (k + 1) s p (c_val pre) ((128 ^ i : Nat) : Int) ((p + i : Nat) : Int) false) = spec_ReadVar.j1 (k + 1) s p (c_val pre) ((128 ^ i : Nat) : Int) ((p + i : Nat) : Int) false := by split <;> rfl
    rw [this, spec_ReadVar.j1, if_neg (by decide)]
    rfl
  | succ j ih =>
    intro k i pre hi hp hl hpre hall hk
    obtain ⟨k, rfl⟩ : ∃ m, k = m + 2 := ⟨k - 2, by omega⟩
    have hi5 : i < 5 := by omega
    have e5 : Aside0 (wrap64 ((p : Int) + 5) = (p : Int) + 5) := ⟨c_wrap (by omega) (by omega)⟩
    rw [spec_ReadVar.l0, e5.out]
    clear e5
    have hz : decide (((p + i : Nat) : Int) < (p : Int) + 5) = true := by simp; omega
    rw [hz]
    by_cases hlt : p + i < s.size
    · obtain ⟨b, hb, hd⟩ := c_drop s (p + i) hlt
      have hb8 := b.toNat_lt
      have hn : c_val pre < 128 ^ i := by rw [← hl]; exact c_val_lt pre
      have hnx := c_small hi5 (c_next (b := b.toNat) hn)
      have hnx2 := c_next (b := b.toNat) hn
      have hpw : 128 ^ i ≤ 268435456 := by rcases c_pw i hi5 with ⟨e, _⟩ | ⟨e, _⟩ | ⟨e, _⟩ | ⟨e, _⟩ | ⟨e, _⟩ <;> omega
      have hmul : b.toNat % 128 * 128 ^ i ≤ 127 * 128 ^ i := Nat.mul_le_mul_right _ (by omega)
      have hsn : c_val (pre ++ [b]) = c_val pre + b.toNat % 128 * 128 ^ i := by rw [c_val_snoc, hl]
      have e2 : Aside0 (wrap64 (b.toNat : Int) = (b.toNat : Int)) := ⟨c_wrap (by omega) (by omega)⟩
      have e3 : Int.tmod (b.toNat : Int) 128 = ((b.toNat % 128 : Nat) : Int) := by rw [Int.tmod_eq_emod_of_nonneg (by omega)]; omega
      have e4 : ((b.toNat % 128 : Nat) : Int) * ((128 ^ i : Nat) : Int) = ((b.toNat % 128 * 128 ^ i : Nat) : Int) := by rw [Int.natCast_mul]
      have e6 : Aside0 (wrap64 ((b.toNat % 128 * 128 ^ i : Nat) : Int) = ((b.toNat % 128 * 128 ^ i : Nat) : Int)) := ⟨c_wrap (by omega) (by omega)⟩
      have e7 : Aside0 (wrap64 ((c_val pre : Int) + ((b.toNat % 128 * 128 ^ i : Nat) : Int)) = ((c_val (pre ++ [b]) : Nat) : Int)) := ⟨by rw [hsn, c_wrap (by omega) (by omega)]; omega⟩
      have e8 : Aside0 (wrap64 (((128 ^ i : Nat) : Int) * 128) = ((128 ^ (i + 1) : Nat) : Int)) := ⟨by rw [Nat.pow_succ, c_wrap (by omega) (by omega)]; omega⟩
      have e9 : Aside0 (wrap64 (((p + i : Nat) : Int) + 1) = ((p + (i + 1) : Nat) : Int)) := ⟨by rw [c_wrap (by omega) (by omega)]; omega⟩
      have hall2 : pre ++ [b] ++ s.data.toList.drop (p + (i + 1)) = s.data.toList.drop p := by rw [List.append_assoc, ← hpre, hd]; rfl
      have hext : (s.extract ((p : Int)).toNat (((p + (i + 1) : Nat) : Int)).toNat).toList = pre ++ [b] := by
        rw [c_toList, c_extract, Int.toNat_natCast, Int.toNat_natCast, List.drop_take, ← hall2]
        have : p + (i + 1) - p = (pre ++ [b]).length := by rw [List.length_append, List.length_singleton]; omega
        rw [this, List.take_left']
        rfl
      have q1 : ((p + i : Nat) : Int) < (s.size : Int) := by omega
      have q2 : (0 : Int) ≤ ((p + i : Nat) : Int) := by omega
      have q3 : (0 : Int) ≤ (p : Int) := by omega
      have q4 : (p : Int) ≤ ((p + (i + 1) : Nat) : Int) := by omega
      have q5 : ((p + (i + 1) : Nat) : Int) ≤ (s.size : Int) := by omega
      rw [if_pos q1, spec_ReadVar.j1, if_pos rfl, if_pos q2, if_pos q1, hb, e2.out, e3, e4, e6.out, e7.out, e8.out, e9.out, hd, c_rv, ← hsn]
      clear e2 e3 e4 e6 e7 e8 e9 hb
      by_cases hc : b.toNat > 127
      · rw [if_neg (by omega), if_pos hc]
        exact ih k (i + 1) (pre ++ [b]) (by omega) (by omega) (by rw [List.length_append, List.length_singleton, hl]) hall2 (fun a ha => by
          rcases List.mem_append.1 ha with h | h
          · exact hall a h
          · rw [List.mem_singleton] at h; subst h; exact hc) (by omega)
      · rw [if_pos (by omega), if_neg hc]
        by_cases hm : c_val (pre ++ [b]) > 1000000000
        · rw [if_pos (by omega), if_pos (Or.inr hm)]; rfl
        · rw [if_neg (by omega), c_l01Var (by omega) (by omega)]
          simp only [Option.bind_some]
          rw [if_pos q3, if_pos q4, if_pos q5, hext, c_toList, c_varB_str]
          by_cases h0 : 0 < i ∧ b.toNat = 0
          · rw [if_neg (c_canon_no pre 4 b (by intro h; subst h; simp at hl; omega) h0.2), if_pos (Or.inl h0)]; rfl
          · rw [if_pos (c_canon pre 4 b (by omega) hall hc (by
              rcases Nat.eq_zero_or_pos i with h | h
              · left; exact List.eq_nil_of_length_eq_zero (by omega)
              · right; intro hz; exact h0 ⟨h, hz⟩)), if_neg (by omega)]
            unfold c_rvo
            rw [Int.natCast_add p (i + 1)]
    · rw [if_neg (by omega), spec_ReadVar.j1, if_neg (by decide), c_drop_end s (p + i) (by omega)]
      rfl
theorem c_sReadVar (s : ByteArray) (hs : s.size ≤ 1048576) (p : Int) (k : Nat) (hk : 18 ≤ k) : spec_ReadVar.f k s p = some (c_readVar s p) := by
  unfold spec_ReadVar.f c_readVar
  rw [c_l01In]
  simp only [Option.bind_some]
  by_cases h : c_in p 0 s.size = true
  · rw [if_pos h, if_pos h]
    rw [c_in_iff] at h
    obtain ⟨q, rfl⟩ := Int.eq_ofNat_of_zero_le h.1
    exact c_rv_spec s hs q 5 k 0 [] (by omega) (by omega) rfl rfl (by simp) (by omega)
  · rw [if_neg h, if_neg h]

/-! ### the law -/
theorem FnExactReadVar : laws_FnExactReadVar.Pure := by
  intro s p _ _
  refine ⟨18, ?_⟩
  unfold laws_FnExactReadVar.f
  by_cases h : (s.size : Int) > 1048576
  · rw [if_pos h]
  · rw [if_neg h, c_sReadVar s (by omega) p 18 (by omega), c_iReadVar s (by omega) p 18 (by omega)]
    simp

end Go.Proofs.Ytdbogijlpplcgaa.Pure
