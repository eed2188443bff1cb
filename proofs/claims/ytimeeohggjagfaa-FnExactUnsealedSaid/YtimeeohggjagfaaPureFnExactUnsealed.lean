/- Unsealed of the program answers as the reference's Unsealed, for every text (the law itself answers true of a text beyond 2^20 bytes). -/
import Derived.Test.YtimeeohggjagfaaPFnExactUnsealedx2
namespace Go.Proofs.Ytimeeohggjagfaa.Pure
open Go.RowKit Go.Proofs.Ytimeeohggjagfaa.PFnExactUnsealed Go.Proofs.YtimeeohggjagfaaW.PrintWords Go.Proofs.YtimeeohggjagfaaW.PrintLast
set_option linter.unusedVariables false
set_option linter.unusedSimpArgs false

/-! ### base -/
theorem c_wrap {n : Int} (h0 : -9223372036854775808 ≤ n) (h1 : n ≤ 9223372036854775807) : wrap64 n = n := by unfold wrap64; omega
theorem c_wf {n : Int} (h : (Lit.int .i64 n).wf = true) : -9223372036854775808 ≤ n ∧ n ≤ 9223372036854775807 := by
  simpa [Lit.wf, IntKind.min, IntKind.max, IntKind.signed, IntKind.bits] using h
theorem c_wf32 {n : Int} (h : (Lit.int .u32 n).wf = true) : 0 ≤ n ∧ n ≤ 4294967295 := by
  simpa [Lit.wf, IntKind.min, IntKind.max, IntKind.signed, IntKind.bits] using h
theorem c_up {k : Nat} (h : 0 < k) : ∃ m, k = m + 1 := ⟨k - 1, by omega⟩

/-! ### drop -/
theorem c_bt (s : ByteArray) (i : Nat) (h : i < s.size) : bt s (i : Int) = ((s[i]'h).toNat : Int) := by
  unfold bt
  simp [h]
theorem c_drop (s : ByteArray) (i : Nat) (h : i < s.size) : ∃ b : UInt8, bt s (i : Int) = (b.toNat : Int) ∧ s.data.toList.drop i = b :: s.data.toList.drop (i + 1) := by
  refine ⟨s[i]'h, c_bt s i h, ?_⟩
  rw [List.drop_eq_getElem_cons (by rw [data_length]; exact h)]
  rfl
theorem c_drop_end (s : ByteArray) (i : Nat) (h : s.size ≤ i) : s.data.toList.drop i = [] := List.drop_eq_nil_of_le (by rw [data_length]; exact h)

/-! ### summore -/
def c_odd (x : Int) : Int := if Int.tmod x 2 = 1 then Go.bits .xor .u32 ((Int.tdiv x 2) % 4294967296) 3558460437 else (Int.tdiv x 2) % 4294967296
def c_iter : Nat → Int → Int
  | 0, x => x
  | n + 1, x => c_iter n (c_odd x)
def c_crc (l : List UInt8) (x : Int) : Int := l.foldl (fun x b => c_iter 8 (Go.bits .xor .u32 x ((b.toNat : Int) % 4294967296))) x
theorem c_sum_in_spec (n : Nat) : ∀ (k : Nat) (x i : Int) (s : ByteArray), n ≤ 8 → spec_SumMore.l1 (k + n + 1) x s i (8 - n) = spec_SumMore.l0 k (c_iter n x) s (wrap64 (i + 1)) := by
  induction n with
  | zero => intro k x i s _; simp only [spec_SumMore.l1]; rw [if_neg (by omega)]; rfl
  | succ n ih =>
    intro k x i s hn
    have e : Aside0 (wrap64 (8 - ((n + 1 : Nat) : Int) + 1) = 8 - (n : Int)) := ⟨by unfold wrap64; omega⟩
    have e2 : k + (n + 1) + 1 = (k + n + 1) + 1 := by omega
    rw [e2, spec_SumMore.l1, if_pos (by omega), e.out, ih _ _ _ _ (by omega), ih _ _ _ _ (by omega)]
    simp only [c_iter, c_odd]
    split <;> rfl
theorem c_sum_spec (s : ByteArray) (hs : s.size ≤ 1048576) (d : Nat) : ∀ (k i : Nat) (x : Int), s.size - i = d → i ≤ s.size → 10 * d < k → spec_SumMore.l0 k x s i = some (c_crc (s.data.toList.drop i) x) := by
  induction d with
  | zero =>
    intro k i x hd hi hk
    obtain ⟨k, rfl⟩ := c_up (k := k) (by omega)
    simp only [spec_SumMore.l0]
    rw [if_neg (by omega), c_drop_end s i (by omega)]
    rfl
  | succ d ih =>
    intro k i x hd hi hk
    obtain ⟨k, rfl⟩ : ∃ m, k = (m + 8 + 1) + 1 := ⟨k - 10, by omega⟩
    obtain ⟨b, hb, hl⟩ := c_drop s i (by omega)
    simp only [spec_SumMore.l0]
    have e := c_sum_in_spec 8 k (Go.bits .xor .u32 x ((b.toNat : Int) % 4294967296)) i s (by omega)
    have z : (8 : Int) - ((8 : Nat) : Int) = 0 := by omega
    rw [z] at e
    have w : Aside0 (wrap64 ((i : Int) + 1) = ((i + 1 : Nat) : Int)) := ⟨by rw [c_wrap (by omega) (by omega)]; omega⟩
    rw [w.out] at e
    rw [if_pos (by omega), if_pos (by omega), hb, e, ih k (i + 1) _ (by omega) (by omega) (by omega), hl]
    rfl
theorem c_SumMore_spec (s : ByteArray) (hs : s.size ≤ 1048576) (k : Nat) (hk : 10 * s.size < k) (x : Int) : spec_SumMore.f k x s = some (c_crc s.data.toList x) := by
  unfold spec_SumMore.f
  have := c_sum_spec s hs s.size k 0 x (by omega) (by omega) hk
  simpa using this
theorem c_sum_in_impl (n : Nat) : ∀ (k : Nat) (x i : Int) (s : ByteArray), n ≤ 8 → impl_SumMore.l1 (k + n + 1) x s i (8 - n) = impl_SumMore.l0 k (c_iter n x) s (wrap64 (i + 1)) := by
  induction n with
  | zero => intro k x i s _; simp only [impl_SumMore.l1]; rw [if_neg (by omega)]; rfl
  | succ n ih =>
    intro k x i s hn
    have e : Aside0 (wrap64 (8 - ((n + 1 : Nat) : Int) + 1) = 8 - (n : Int)) := ⟨by unfold wrap64; omega⟩
    have e2 : k + (n + 1) + 1 = (k + n + 1) + 1 := by omega
    rw [e2, impl_SumMore.l1, if_pos (by omega), e.out, ih _ _ _ _ (by omega), ih _ _ _ _ (by omega)]
    simp only [c_iter, c_odd]
    split <;> rfl
theorem c_sum_impl (s : ByteArray) (hs : s.size ≤ 1048576) (d : Nat) : ∀ (k i : Nat) (x : Int), s.size - i = d → i ≤ s.size → 10 * d < k → impl_SumMore.l0 k x s i = some (c_crc (s.data.toList.drop i) x) := by
  induction d with
  | zero =>
    intro k i x hd hi hk
    obtain ⟨k, rfl⟩ := c_up (k := k) (by omega)
    simp only [impl_SumMore.l0]
    rw [if_neg (by omega), c_drop_end s i (by omega)]
    rfl
  | succ d ih =>
    intro k i x hd hi hk
    obtain ⟨k, rfl⟩ : ∃ m, k = (m + 8 + 1) + 1 := ⟨k - 10, by omega⟩
    obtain ⟨b, hb, hl⟩ := c_drop s i (by omega)
    simp only [impl_SumMore.l0]
    have e := c_sum_in_impl 8 k (Go.bits .xor .u32 x ((b.toNat : Int) % 4294967296)) i s (by omega)
    have z : (8 : Int) - ((8 : Nat) : Int) = 0 := by omega
    rw [z] at e
    have w : Aside0 (wrap64 ((i : Int) + 1) = ((i + 1 : Nat) : Int)) := ⟨by rw [c_wrap (by omega) (by omega)]; omega⟩
    rw [w.out] at e
    rw [if_pos (by omega), if_pos (by omega), hb, e, ih k (i + 1) _ (by omega) (by omega) (by omega), hl]
    rfl
theorem c_SumMore_impl (s : ByteArray) (hs : s.size ≤ 1048576) (k : Nat) (hk : 10 * s.size < k) (x : Int) : impl_SumMore.f k x s = some (c_crc s.data.toList x) := by
  unfold impl_SumMore.f
  have := c_sum_impl s hs s.size k 0 x (by omega) (by omega) hk
  simpa using this

/-! ### crcrange -/
theorem c_xor_nat (a b : Nat) (ha : a < 4294967296) (hb : b < 4294967296) : Go.bits .xor .u32 (a : Int) (b : Int) = ((a ^^^ b : Nat) : Int) := by
  have ha' : a % 2 ^ 32 = a := Nat.mod_eq_of_lt (by omega)
  have hb' : b % 2 ^ 32 = b := Nat.mod_eq_of_lt (by omega)
  have hx : a ^^^ b < 2 ^ 32 := Nat.xor_lt_two_pow (by omega) (by omega)
  have e : (BitVec.ofNat 32 a ^^^ BitVec.ofNat 32 b).toNat = a ^^^ b := by rw [BitVec.toNat_xor, BitVec.toNat_ofNat, BitVec.toNat_ofNat, ha', hb']
  simp only [Go.bits, BitVec.ofInt_natCast, IntKind.wrap_u32]
  have e2 : ((BitVec.ofNat IntKind.u32.bits a ^^^ BitVec.ofNat IntKind.u32.bits b).toNat : Int) = ((a ^^^ b : Nat) : Int) := by exact_mod_cast e
  rw [e2]
  omega
theorem c_xor_range {x : Int} {b : Nat} (h0 : 0 ≤ x) (h1 : x < 4294967296) (hb : b < 4294967296) : 0 ≤ Go.bits .xor .u32 x (b : Int) ∧ Go.bits .xor .u32 x (b : Int) < 4294967296 := by
  obtain ⟨a, rfl⟩ := Int.eq_ofNat_of_zero_le h0
  rw [c_xor_nat a b (by omega) hb]
  have hx : a ^^^ b < 2 ^ 32 := Nat.xor_lt_two_pow (by omega) (by omega)
  omega
theorem c_odd_range {x : Int} (h0 : 0 ≤ x) (h1 : x < 4294967296) : 0 ≤ c_odd x ∧ c_odd x < 4294967296 := by
  unfold c_odd
  rw [Int.tdiv_eq_ediv_of_nonneg h0]
  have h2 : 0 ≤ x / 2 % 4294967296 := by omega
  have h3 : x / 2 % 4294967296 < 4294967296 := by omega
  split
  · exact c_xor_range (b := 3558460437) h2 h3 (by omega)
  · exact ⟨h2, h3⟩
theorem c_iter_range (n : Nat) : ∀ {x : Int}, 0 ≤ x → x < 4294967296 → 0 ≤ c_iter n x ∧ c_iter n x < 4294967296 := by
  induction n with
  | zero => intro x h0 h1; exact ⟨h0, h1⟩
  | succ n ih =>
    intro x h0 h1
    obtain ⟨h2, h3⟩ := c_odd_range h0 h1
    exact ih h2 h3
theorem c_byte_mod (b : UInt8) : (b.toNat : Int) % 4294967296 = ((b.toNat : Nat) : Int) := by
  have := b.toNat_lt
  omega
theorem c_crc_range (l : List UInt8) : ∀ {x : Int}, 0 ≤ x → x < 4294967296 → 0 ≤ c_crc l x ∧ c_crc l x < 4294967296 := by
  induction l with
  | nil => intro x h0 h1; exact ⟨h0, h1⟩
  | cons b l ih =>
    intro x h0 h1
    have hb := b.toNat_lt
    have hx := c_xor_range (b := b.toNat) h0 h1 (by omega)
    rw [← c_byte_mod] at hx
    obtain ⟨h2, h3⟩ := c_iter_range 8 hx.1 hx.2
    exact ih h2 h3

/-! ### four -/
def c_four (x : Int) : List Int := [(x / 16777216) % 256, (x / 65536) % 256, (x / 256) % 256, x % 256]
theorem c_wrap32 (n : Int) (h0 : 0 ≤ n) (h1 : n < 2 ^ 63) : IntKind.i64.wrap n = n := by rw [IntKind.wrap_i64]; omega
theorem c_and255 {x : Int} (h0 : 0 ≤ x) (h1 : x < 4294967296) : (Go.bits .and .i64 x 255) % 256 = x % 256 := by
  have := bits_mask .i64 63 (by decide) c_wrap32 8 (by decide) x h0 (by omega)
  have e : (2 : Int) ^ 8 - 1 = 255 := rfl
  have e2 : (2 : Int) ^ 8 = 256 := rfl
  rw [e, e2] at this
  rw [this]
  omega

/-! ### highfirst -/
theorem c_highFirst {x : Int} (h0 : 0 ≤ x) (h1 : x < 4294967296) (k : Nat) : impl_highFirst.f (k + 5) x 4 = some (strOfNums (c_four x)) := by
  unfold impl_highFirst.f
  have w3 : Aside0 (wrap64 (4 - 1) = 3) := ⟨by unfold wrap64; omega⟩
  have w2 : Aside0 (wrap64 (3 - 1) = 2) := ⟨by unfold wrap64; omega⟩
  have w1 : Aside0 (wrap64 (2 - 1) = 1) := ⟨by unfold wrap64; omega⟩
  have w0 : Aside0 (wrap64 (1 - 1) = 0) := ⟨by unfold wrap64; omega⟩
  have wm : Aside0 (wrap64 (0 - 1) = -1) := ⟨by unfold wrap64; omega⟩
  have d1 : x / 256 / 256 = x / 65536 := by omega
  have d2 : x / 65536 / 256 = x / 16777216 := by omega
  rw [if_pos (by decide), if_pos (by decide), w3.out]
  have e : List.replicate (4 : Int).toNat (0 : Int) = [0, 0, 0, 0] := rfl
  rw [e, impl_highFirst.l0, if_pos (by decide), if_pos (by decide), if_pos (by decide), w2.out, c_and255 h0 h1]
  rw [impl_highFirst.l0, if_pos (by decide), if_pos (by decide), if_pos (by simp), w1.out, c_and255 (by omega) (by omega), d1]
  rw [impl_highFirst.l0, if_pos (by decide), if_pos (by decide), if_pos (by simp), w0.out, c_and255 (by omega) (by omega), d2]
  rw [impl_highFirst.l0, if_pos (by decide), if_pos (by decide), if_pos (by simp), wm.out, c_and255 (by omega) (by omega)]
  rw [impl_highFirst.l0, if_neg (by decide)]
  rfl

/-! ### sealed -/
def c_sum (s : ByteArray) : Int := c_crc s.data.toList 4294967295
theorem c_sum_range (s : ByteArray) : 0 ≤ c_sum s ∧ c_sum s < 4294967296 := c_crc_range _ (by omega) (by omega)
theorem c_four_size (x : Int) : (strOfNums (c_four x)).size = 4 := by rw [strOfNums_size]; rfl
theorem c_SumOf_impl (s : ByteArray) (hs : s.size ≤ 1048576) (k : Nat) (hk : 10 * s.size < k) : impl_SumOf.f k s = some (c_sum s) := by
  unfold impl_SumOf.f
  rw [c_SumMore_impl s hs k hk]
  rfl
theorem c_Sealed_impl (s : ByteArray) (hs : s.size ≤ 20000) (k : Nat) (hk : 200000 ≤ k) : impl_Sealed.f (k + 5) s = some (s ++ strOfNums (c_four (c_sum s)), true) := by
  obtain ⟨h0, h1⟩ := c_sum_range s
  unfold impl_Sealed.f
  rw [if_neg (by omega), c_SumOf_impl s (by omega) _ (by omega)]
  simp only [Option.bind_some]
  rw [c_wrap (by omega) (by omega), c_highFirst h0 h1]
  simp only [Option.bind_some]
  rw [if_pos (by rw [c_four_size]; omega)]
theorem c_Sealed_no (s : ByteArray) (hs : 20000 < s.size) (k : Nat) : impl_Sealed.f k s = some ((⟨#[]⟩ : ByteArray), false) := by
  unfold impl_Sealed.f
  rw [if_pos (by omega)]

/-! ### bytes -/
theorem c_toList (s : ByteArray) : s.toList = s.data.toList := ByteArray.toList_eq s
theorem c_extract (s : ByteArray) (a b : Nat) : (s.extract a b).data.toList = (s.data.toList.take b).drop a := by
  simp [ByteArray.data_extract, Array.toList_extract, List.extract_eq_take_drop, List.drop_take]
theorem c_ext {s t : ByteArray} (h : s.data.toList = t.data.toList) : s = t := by
  cases s; cases t; congr; exact Array.toList_inj.1 h

/-! ### sealed_more -/
theorem c_split4 (s : ByteArray) (n : Nat) (h : s.size = n + 4) : (s.extract 0 n).data.toList ++ (s.extract n s.size).data.toList = s.data.toList := by
  rw [c_extract, c_extract, List.drop_zero]
  have : s.data.toList.take s.size = s.data.toList := List.take_of_length_le (by rw [data_length]; omega)
  rw [this, List.take_append_drop]
theorem c_extract_size (s : ByteArray) (n : Nat) (h : n ≤ s.size) : (s.extract 0 n).size = n := by
  have := congrArg List.length (c_extract s 0 n)
  rw [data_length, List.drop_zero, List.length_take, data_length] at this
  omega
theorem c_appList (a b : ByteArray) : (a ++ b).data.toList = a.data.toList ++ b.data.toList := by simp
def c_unsealed (s : ByteArray) : ByteArray × Bool :=
  if s.size < 4 then ((⟨#[]⟩ : ByteArray), false) else if s.size - 4 > 20000 then ((⟨#[]⟩ : ByteArray), false)
  else if (s.extract (s.size - 4) s.size).data.toList = (strOfNums (c_four (c_sum (s.extract 0 (s.size - 4))))).data.toList then (s.extract 0 (s.size - 4), true) else ((⟨#[]⟩ : ByteArray), false)
theorem c_Unsealed_impl (s : ByteArray) (hs : s.size ≤ 1048576) (k : Nat) (hk : 200000 ≤ k) : impl_Unsealed.f (k + 5) s = some (c_unsealed s) := by
  unfold impl_Unsealed.f c_unsealed
  rw [c_wrap (by omega) (by omega)]
  by_cases h1 : s.size < 4
  · rw [if_pos (by omega), if_pos h1]
  · have e : (s.size : Int) - 4 = ((s.size - 4 : Nat) : Int) := by omega
    rw [if_neg (by omega), if_neg h1, if_pos (by omega), if_pos (by omega), e, Int.toNat_natCast]
    have hz := c_extract_size s (s.size - 4) (by omega)
    by_cases h2 : s.size - 4 > 20000
    · rw [if_pos h2, c_Sealed_no _ (by omega)]
      simp
    · rw [if_neg h2, c_Sealed_impl _ (by omega) k hk]
      simp only [Option.bind_some, if_true]
      have hiff : (s.extract 0 (s.size - 4) ++ strOfNums (c_four (c_sum (s.extract 0 (s.size - 4))))).toList = s.toList ↔ (s.extract (s.size - 4) s.size).data.toList = (strOfNums (c_four (c_sum (s.extract 0 (s.size - 4))))).data.toList := by
        rw [c_toList, c_toList, c_appList]
        have := c_split4 s (s.size - 4) (by omega)
        constructor
        · intro h
          rw [← this] at h
          exact (List.append_cancel_left h).symm
        · intro h
          rw [← h, this]
      by_cases h3 : (s.extract (s.size - 4) s.size).data.toList = (strOfNums (c_four (c_sum (s.extract 0 (s.size - 4))))).data.toList
      · rw [if_pos (hiff.2 h3), if_pos h3]
      · rw [if_neg (mt hiff.1 h3), if_neg h3]

/-! ### sumof_s -/
theorem c_SumOf_spec (s : ByteArray) (hs : s.size ≤ 1048576) (k : Nat) (hk : 10 * s.size < k) : spec_SumOf.f k s = some (c_sum s) := by
  unfold spec_SumOf.f
  rw [c_SumMore_spec s hs k hk]
  rfl
theorem c_l02Four (x : Int) : spec_l02Four.f x = some (strOfNums (c_four x)) := rfl

/-! ### unsealed_s -/
theorem c_Unsealed_spec (s : ByteArray) (hs : s.size ≤ 1048576) (k : Nat) (hk : 200020 < k) : spec_Unsealed.f k s = some (c_unsealed s) := by
  unfold spec_Unsealed.f c_unsealed
  rw [c_wrap (by omega) (by omega)]
  by_cases h1 : s.size < 4
  · rw [if_pos (by omega), if_pos h1]
  · have e : (s.size : Int) - 4 = ((s.size - 4 : Nat) : Int) := by omega
    rw [if_neg (by omega), if_neg h1]
    by_cases h2 : s.size - 4 > 20000
    · rw [if_pos h2, if_pos (by omega)]
    · have hz := c_extract_size s (s.size - 4) (by omega)
      rw [if_neg h2, if_neg (by omega), if_pos (by omega), if_pos (by omega), e, Int.toNat_natCast, c_SumOf_spec _ (by omega) k (by omega)]
      simp only [Option.bind_some, c_l02Four]
      rw [c_toList, c_toList]
      by_cases h3 : (s.extract (s.size - 4) s.size).data.toList = (strOfNums (c_four (c_sum (s.extract 0 (s.size - 4))))).data.toList
      · rw [if_pos h3, if_pos h3]
      · rw [if_neg h3, if_neg h3]

/-! ### the law -/
theorem FnExactUnsealed : laws_FnExactUnsealed.Pure := by
  intro s _
  refine ⟨300000 + 5, ?_⟩
  unfold laws_FnExactUnsealed.f
  by_cases h : (s.size : Int) > 1048576
  · rw [if_pos h]
  · rw [if_neg h, c_Unsealed_spec s (by omega) _ (by omega), c_Unsealed_impl s (by omega) _ (by omega)]
    simp

end Go.Proofs.Ytimeeohggjagfaa.Pure
