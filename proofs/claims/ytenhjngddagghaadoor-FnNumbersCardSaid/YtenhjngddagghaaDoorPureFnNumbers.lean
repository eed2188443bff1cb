/- A drawn number in 0 .. MaxNumber comes back from its bytes and from its numeral, a drawn text from its short form and from its figures in base 16, for every code (the law itself answers true of one of more than 2^20 bytes). -/
import Derived.Test.YtenhjngddagghaaDoorMFnNumbersx6
namespace Go.Proofs.YtenhjngddagghaaDoor.Pure
open Go.RowKit Go.Proofs.YtenhjngddagghaaDoor.PFnNumbers Go.Proofs.YtenhjngddagghaaDoorW.PrintWords Go.Proofs.YtenhjngddagghaaDoorW.PrintLast
set_option linter.unusedVariables false
set_option linter.unusedSimpArgs false

/-! ### base -/
theorem c_wrap {n : Int} (h0 : -9223372036854775808 ≤ n) (h1 : n ≤ 9223372036854775807) : wrap64 n = n := by unfold wrap64; omega
theorem c_wf {n : Int} (h : (Lit.int .i64 n).wf = true) : -9223372036854775808 ≤ n ∧ n ≤ 9223372036854775807 := by
  simpa [Lit.wf, IntKind.min, IntKind.max, IntKind.signed, IntKind.bits] using h
theorem c_wf32 {n : Int} (h : (Lit.int .u32 n).wf = true) : 0 ≤ n ∧ n ≤ 4294967295 := by
  simpa [Lit.wf, IntKind.min, IntKind.max, IntKind.signed, IntKind.bits] using h
theorem c_up {k : Nat} (h : 0 < k) : ∃ m, k = m + 1 := ⟨k - 1, by omega⟩

/-! ### ints -/
theorem c_rd {l : List Int} {i : Nat} (h : i < l.length) : rd l (i : Int) = l[i]'h := by
  unfold rd
  simp [h]
theorem c_rd_app (pre : List Int) (a : Int) (l : List Int) : rd (pre ++ a :: l) (pre.length : Int) = a := by
  unfold rd
  simp
theorem c_inc {i n : Nat} (h : i < n) (hn : n ≤ 9223372036854775807) : wrap64 ((i : Int) + 1) = ((i + 1 : Nat) : Int) := by rw [c_wrap (by omega) (by omega)]; omega

/-! ### draw -/
structure CSt (l : List Int) (i : Int) : Prop where
  lo : 0 ≤ i
  hi : i ≤ l.length
  sz : l.length ≤ 4611686018427387904
theorem c_and_le (x : Int) : 0 ≤ Go.bits .and .i64 x 255 ∧ Go.bits .and .i64 x 255 ≤ 255 := by
  have h : (BitVec.ofInt 64 x &&& BitVec.ofInt 64 255).toNat ≤ 255 := by
    rw [BitVec.toNat_and]
    exact Nat.le_trans Nat.and_le_right (by decide)
  have e : Go.bits .and .i64 x 255 = IntKind.i64.wrap ((BitVec.ofInt 64 x &&& BitVec.ofInt 64 255).toNat : Int) := rfl
  rw [e, IntKind.wrap_i64]
  omega
theorem c_new (l : List Int) (hl : l.length ≤ 4611686018427387904) (d : Nat) : ∀ (h : Int) (i : Nat), 4000 - i = d → i ≤ l.length → ∃ h', ∀ k, d < k → spec_l01New.l0 k l h i = some (l, 0, h') := by
  induction d with
  | zero =>
    intro h i hd hi
    refine ⟨h, fun k hk => ?_⟩
    obtain ⟨k, rfl⟩ := c_up (k := k) (by omega)
    rw [spec_l01New.l0]
    by_cases h1 : (i : Int) < (l.length : Int)
    · rw [if_pos h1, if_neg (by omega)]
    · rw [if_neg h1]
  | succ d ih =>
    intro h i hd hi
    by_cases h1 : i < l.length
    · obtain ⟨h', hh⟩ := ih (Go.bits .and .i64 (wrap64 ((wrap64 ((wrap64 (h * 131)) + (wrap64 (rd l i)))) + 7)) 1073741823) (i + 1) (by omega) (by omega)
      refine ⟨h', fun k hk => ?_⟩
      obtain ⟨k, rfl⟩ := c_up (k := k) (by omega)
      rw [spec_l01New.l0, if_pos (by omega), if_pos (by omega), if_pos (by omega), c_inc (n := l.length) (by omega) (by omega)]
      exact hh k (by omega)
    · refine ⟨h, fun k hk => ?_⟩
      obtain ⟨k, rfl⟩ := c_up (k := k) (by omega)
      rw [spec_l01New.l0, if_neg (by omega)]
theorem c_l01New (l : List Int) (hl : l.length ≤ 4611686018427387904) : ∃ h, ∀ k, 4000 < k → spec_l01New.f k l = some (l, 0, h) := by
  obtain ⟨h, hh⟩ := c_new l hl 4000 (wrap64 (37101 + (l.length : Int))) 0 rfl (by omega)
  exact ⟨h, fun k hk => by unfold spec_l01New.f; exact hh k hk⟩
theorem c_byte {l : List Int} {i : Int} (h : Int) (s : CSt l i) : ∃ x i' h', spec_l01Byte.f l i h = some (x, i', h') ∧ 0 ≤ x ∧ x ≤ 255 ∧ CSt l i' := by
  unfold spec_l01Byte.f
  have hlo := s.lo
  have hhi := s.hi
  have hsz := s.sz
  by_cases h1 : i < (l.length : Int)
  · rw [if_pos h1, if_pos hlo]
    refine ⟨_, _, _, rfl, (c_and_le _).1, (c_and_le _).2, ?_⟩
    rw [c_wrap (n := i + 1) (by omega) (by omega)]
    exact ⟨by omega, by omega, hsz⟩
  · rw [if_neg h1]
    exact ⟨_, _, _, rfl, (c_and_le _).1, (c_and_le _).2, s⟩
theorem c_below {l : List Int} {i : Int} (h : Int) (s : CSt l i) (n : Int) : ∃ x i' h', spec_l01Below.f l i h n = some (x, i', h') ∧ 0 ≤ x ∧ (0 < n → x < n) ∧ (n ≤ 0 → x = 0) ∧ CSt l i' := by
  unfold spec_l01Below.f
  by_cases h0 : n ≤ 0
  · rw [if_pos h0]
    exact ⟨_, _, _, rfl, by omega, by omega, fun _ => rfl, s⟩
  · rw [if_neg h0]
    by_cases h1 : n ≤ 256
    · obtain ⟨x, i', h', e, hx0, hx1, s'⟩ := c_byte h s
      rw [if_pos h1, e]
      simp only [Option.bind_some]
      rw [if_neg (by omega), Int.tmod_eq_emod_of_nonneg hx0]
      exact ⟨_, _, _, rfl, Int.emod_nonneg _ (by omega), fun _ => Int.emod_lt_of_pos _ (by omega), by omega, s'⟩
    · obtain ⟨x, i1, h1', e1, hx0, hx1, s1⟩ := c_byte h s
      obtain ⟨y, i2, h2', e2, hy0, hy1, s2⟩ := c_byte h1' s1
      obtain ⟨z, i3, h3', e3, hz0, hz1, s3⟩ := c_byte h2' s2
      obtain ⟨w, i4, h4', e4, hw0, hw1, s4⟩ := c_byte h3' s3
      rw [if_neg h1, e1]
      simp only [Option.bind_some]
      rw [e2]
      simp only [Option.bind_some]
      rw [e3]
      simp only [Option.bind_some]
      rw [e4]
      simp only [Option.bind_some]
      rw [if_neg (by omega), c_wrap (n := x * 16777216) (by omega) (by omega), c_wrap (n := y * 65536) (by omega) (by omega), c_wrap (n := z * 256) (by omega) (by omega), c_wrap (n := x * 16777216 + y * 65536) (by omega) (by omega), c_wrap (n := x * 16777216 + y * 65536 + z * 256) (by omega) (by omega), c_wrap (by omega) (by omega), Int.tmod_eq_emod_of_nonneg (by omega)]
      exact ⟨_, _, _, rfl, Int.emod_nonneg _ (by omega), fun _ => Int.emod_lt_of_pos _ (by omega), by omega, s4⟩
theorem c_pick {l : List Int} {i : Int} (h : Int) (s : CSt l i) (xs : List Int) (hx : 0 < xs.length) : ∃ x i' h', spec_l01PickInt.f l i h xs = some (x, i', h') ∧ x ∈ xs ∧ CSt l i' := by
  unfold spec_l01PickInt.f
  obtain ⟨x, i', h', e, hx0, hx1, _, s'⟩ := c_below h s (xs.length : Int)
  rw [e]
  simp only [Option.bind_some]
  rw [if_pos hx0, if_pos (hx1 (by omega))]
  refine ⟨_, _, _, rfl, ?_, s'⟩
  obtain ⟨j, rfl⟩ := Int.eq_ofNat_of_zero_le hx0
  have := hx1 (by omega)
  rw [c_rd (by omega)]
  exact List.getElem_mem _

/-! ### once -/
theorem c_once {l : List Int} {i : Int} (h : Int) (s : CSt l i) (n : Int) : ∃ b i' h', spec_l01Once.f l i h n = some (b, i', h') ∧ CSt l i' := by
  obtain ⟨x, i1, h1, e1, _, _, _, s1⟩ := c_below h s n
  unfold spec_l01Once.f
  rw [e1]
  exact ⟨_, _, _, rfl, s1⟩

/-! ### drop -/
theorem c_bt (s : ByteArray) (i : Nat) (h : i < s.size) : bt s (i : Int) = ((s[i]'h).toNat : Int) := by
  unfold bt
  simp [h]
theorem c_drop (s : ByteArray) (i : Nat) (h : i < s.size) : ∃ b : UInt8, bt s (i : Int) = (b.toNat : Int) ∧ s.data.toList.drop i = b :: s.data.toList.drop (i + 1) := by
  refine ⟨s[i]'h, c_bt s i h, ?_⟩
  rw [List.drop_eq_getElem_cons (by rw [data_length]; exact h)]
  rfl
theorem c_drop_end (s : ByteArray) (i : Nat) (h : s.size ≤ i) : s.data.toList.drop i = [] := List.drop_eq_nil_of_le (by rw [data_length]; exact h)

/-! ### bytes -/
theorem c_toList (s : ByteArray) : s.toList = s.data.toList := ByteArray.toList_eq s
theorem c_extract (s : ByteArray) (a b : Nat) : (s.extract a b).data.toList = (s.data.toList.take b).drop a := by
  simp [ByteArray.data_extract, Array.toList_extract, List.extract_eq_take_drop, List.drop_take]
theorem c_ext {s t : ByteArray} (h : s.data.toList = t.data.toList) : s = t := by
  cases s; cases t; congr; exact Array.toList_inj.1 h

/-! ### textdraw -/
theorem c_textl {l : List Int} (n : Int) (hn : n ≤ 5000) (d : Nat) : ∀ {i : Int} (h : Int) (s : CSt l i) (j : Nat) (acc : List Int), (n - (j : Int)).toNat = d → acc.length ≤ j → j ≤ 5000 → ∃ (t : ByteArray) (i' h' : Int), CSt l i' ∧ t.size ≤ acc.length + d ∧ ∀ k, d < k → spec_l01Text.l0 k n acc j l i h = some (t, i', h') := by
  induction d with
  | zero =>
    intro i h s j acc hd ha hj
    refine ⟨strOfNums acc, i, h, s, by rw [strOfNums_size]; omega, fun k hk => ?_⟩
    obtain ⟨k, rfl⟩ := c_up (k := k) (by omega)
    rw [spec_l01Text.l0, if_neg (by omega)]
  | succ d ih =>
    intro i h s j acc hd ha hj
    obtain ⟨x, i1, h1, e1, _, _, s1⟩ := c_byte h s
    obtain ⟨t, i', h', s', ht, q⟩ := ih h1 s1 (j + 1) (acc ++ [x % 256]) (by omega) (by simp; omega) (by omega)
    refine ⟨t, i', h', s', by rw [List.length_append, List.length_singleton] at ht; omega, fun k hk => ?_⟩
    obtain ⟨k, rfl⟩ := c_up (k := k) (by omega)
    rw [spec_l01Text.l0, if_pos (by omega), e1]
    simp only [Option.bind_some]
    rw [if_pos (by omega), c_inc (n := 9223372036854775807) (by omega) (by omega)]
    exact q k (by omega)
theorem c_text {l : List Int} {i : Int} (h : Int) (s : CSt l i) (n : Int) (hn : n ≤ 5000) : ∃ (t : ByteArray) (i' h' : Int), CSt l i' ∧ t.size ≤ n.toNat ∧ ∀ k, 5002 < k → spec_l01Text.f k l i h n = some (t, i', h') := by
  obtain ⟨t, i', h', s', ht, q⟩ := c_textl n hn n.toNat h s 0 [] (by omega) (by simp) (by omega)
  refine ⟨t, i', h', s', by simpa using ht, fun k hk => ?_⟩
  obtain ⟨k, rfl⟩ := c_up (k := k) (by omega)
  unfold spec_l01Text.f
  rw [if_neg (by omega), spec_l01Text.j0]
  exact q k (by omega)
theorem c_longl (n : Nat) (hn : n ≤ 30000) (x : Int) (d : Nat) : ∀ (j : Nat) (xs : List Int), n - j = d → j ≤ n → xs.length = n → ∃ t : ByteArray, t.size = n ∧ ∀ k, d < k → spec_l01Long.l0 k n x xs j = some t := by
  induction d with
  | zero =>
    intro j xs hd hj hx
    refine ⟨strOfNums xs, by rw [strOfNums_size, hx], fun k hk => ?_⟩
    obtain ⟨k, rfl⟩ := c_up (k := k) (by omega)
    rw [spec_l01Long.l0, if_neg (by omega)]
  | succ d ih =>
    intro j xs hd hj hx
    obtain ⟨t, ht, q⟩ := ih (j + 1) (xs.set j x) (by omega) (by omega) (by rw [List.length_set]; exact hx)
    refine ⟨t, ht, fun k hk => ?_⟩
    obtain ⟨k, rfl⟩ := c_up (k := k) (by omega)
    rw [spec_l01Long.l0, if_pos (by omega), if_pos (by omega), if_pos (by omega), Int.toNat_natCast, c_inc (n := 9223372036854775807) (by omega) (by omega)]
    exact q k (by omega)
theorem c_long (n : Nat) (hn : n ≤ 30000) (x : Int) : ∃ t : ByteArray, t.size = n ∧ ∀ k, 30000 < k → spec_l01Long.f k n x = some t := by
  obtain ⟨t, ht, q⟩ := c_longl n hn x n 0 (List.replicate n 0) (by omega) (by omega) (by simp)
  refine ⟨t, ht, fun k hk => ?_⟩
  unfold spec_l01Long.f
  rw [if_pos (by omega), if_pos (by omega)]
  exact q k (by omega)

/-! ### readdec -/
def c_dv (n : Nat) (l : List UInt8) : Nat := l.foldl (fun m c => 10 * m + (c.toNat - 48)) n
theorem c_dv_nil (n : Nat) : c_dv n [] = n := rfl
theorem c_dv_cons (n : Nat) (c : UInt8) (r : List UInt8) : c_dv n (c :: r) = c_dv (10 * n + (c.toNat - 48)) r := by
  unfold c_dv
  rw [List.foldl_cons]
def c_digits (l : List UInt8) : Prop := ∀ c ∈ l, 48 ≤ c.toNat ∧ c.toNat ≤ 57
theorem c_dv_app (a b : List UInt8) : ∀ n, c_dv n (a ++ b) = c_dv (c_dv n a) b := by
  induction a with
  | nil => intro n; rfl
  | cons c r ih => intro n; exact ih _
theorem c_dig (u : Nat) (h : u < 10) : (UInt8.ofNat (48 + u)).toNat = 48 + u := by
  rw [UInt8.toNat_ofNat']; omega
theorem c_dv_dec (u : Nat) : c_dv 0 (Lib.decDigits u) = u := by
  induction u using Nat.strongRecOn with
  | _ u ih =>
    rw [Lib.decDigits]
    by_cases h : u < 10
    · rw [dif_pos h]
      show 10 * 0 + ((UInt8.ofNat (48 + u)).toNat - 48) = u
      rw [c_dig u h]; omega
    · rw [dif_neg h, c_dv_app, ih (u / 10) (by omega)]
      show 10 * (u / 10) + ((UInt8.ofNat (48 + u % 10)).toNat - 48) = u
      rw [c_dig _ (by omega)]; omega
theorem c_digits_dec (u : Nat) : c_digits (Lib.decDigits u) := by
  induction u using Nat.strongRecOn with
  | _ u ih =>
    intro c hc
    rw [Lib.decDigits] at hc
    by_cases h : u < 10
    · rw [dif_pos h, List.mem_singleton] at hc
      rw [hc, c_dig u h]; omega
    · rw [dif_neg h, List.mem_append, List.mem_singleton] at hc
      rcases hc with hc | hc
      · exact ih (u / 10) (by omega) c hc
      · rw [hc, c_dig _ (by omega)]; omega
theorem c_dv_le (l : List UInt8) (hd : c_digits l) : ∀ n, c_dv n l + 1 ≤ (n + 1) * 10 ^ l.length := by
  induction l with
  | nil => intro n; rw [c_dv_nil]; simp
  | cons c r ih =>
    intro n
    have hc := hd c List.mem_cons_self
    have h := ih (fun x hx => hd x (List.mem_cons_of_mem _ hx)) (10 * n + (c.toNat - 48))
    show c_dv (10 * n + (c.toNat - 48)) r + 1 ≤ _
    rw [List.length_cons, Nat.pow_succ]
    have h2 : (10 * n + (c.toNat - 48) + 1) * 10 ^ r.length ≤ ((n + 1) * 10) * 10 ^ r.length := Nat.mul_le_mul_right _ (by omega)
    have h3 : ((n + 1) * 10) * 10 ^ r.length = (n + 1) * (10 ^ r.length * 10) := by rw [Nat.mul_assoc, Nat.mul_comm 10]
    omega
theorem c_dv_ge (l : List UInt8) : ∀ n, n ≤ c_dv n l := by
  induction l with
  | nil => intro n; exact Nat.le_refl _
  | cons x t ih =>
    intro n
    have h := ih (10 * n + (x.toNat - 48))
    rw [c_dv_cons]
    omega
/-- Figures are parsed to their value. -/
theorem c_parse (l : List UInt8) (hd : c_digits l) : ∀ n, c_dv n l < 18446744073709551616 → Lib.parseUint10 n l = .ok (c_dv n l) := by
  induction l with
  | nil => intro n _; rfl
  | cons c r ih =>
    intro n hn
    have hc := hd c List.mem_cons_self
    have hr : c_digits r := fun x hx => hd x (List.mem_cons_of_mem _ hx)
    have hge := c_dv_ge r (10 * n + (c.toNat - 48))
    rw [c_dv_cons] at hn ⊢
    rw [Lib.parseUint10, if_pos hc, if_neg (by omega), if_neg (by omega), show n * 10 + (c.toNat - 48) = 10 * n + (c.toNat - 48) by omega]
    exact ih hr _ hn
theorem c_atoi (l : List UInt8) (hd : c_digits l) (hne : l ≠ []) (hv : c_dv 0 l < 9223372036854775808) : Lib.atoiAll l = .ok (c_dv 0 l : Int) := by
  cases l with
  | nil => exact absurd rfl hne
  | cons c r =>
    have hc := hd c List.mem_cons_self
    unfold Lib.atoiAll
    simp only
    rw [if_neg (c := c.toNat = 43 ∨ c.toNat = 45) (by omega), Lib.parseMag, if_neg (by simp), c_parse _ hd 0 (by omega)]
    simp only
    rw [if_neg (by omega), if_neg (by omega), if_neg (by omega)]
/-- The numeral's own value. -/
theorem c_itoa (v : Int) (h0 : 0 ≤ v) : c_digits (Lib.itoa v) ∧ c_dv 0 (Lib.itoa v) = v.toNat ∧ Lib.itoa v ≠ [] ∧ (Lib.itoa v).length = Lib.nDigits v.toNat := by
  have e : Lib.itoa v = Lib.decDigits v.toNat := by unfold Lib.itoa; rw [if_neg (by omega)]
  rw [e]
  refine ⟨c_digits_dec _, c_dv_dec _, fun h => ?_, Lib.decDigits_length _⟩
  have h1 := congrArg List.length h
  rw [Lib.decDigits_length, List.length_nil] at h1
  have h2 := Lib.nDigits_pos v.toNat
  omega
/-- The reading in plain words: figures alone, no more than 10^9, and its own numeral. -/
theorem c_read_yes (s : ByteArray) (v : Int) (h0 : 0 ≤ v) (h1 : v ≤ 1000000000) (h : Lib.itoa v = s.data.toList) : c_read s = (v, true) := by
  obtain ⟨a, b, c, _⟩ := c_itoa v h0
  have ha : Lib.atoiAll s.data.toList = .ok v := by
    rw [← h, c_atoi _ a c (by rw [b]; omega), b]
    congr 1
    omega
  rw [c_read_ok ha, if_pos ⟨⟨h0, h1⟩, h⟩]
theorem c_read_no (s : ByteArray) (h : ∀ v : Int, 0 ≤ v → v ≤ 1000000000 → Lib.itoa v ≠ s.data.toList) : c_read s = (0, false) := by
  unfold c_read
  split
  · rename_i v _
    rw [if_neg (fun x => h v x.1.1 x.1.2 x.2)]
  · rfl

/-! ### vartext -/
def c_var : Nat → Nat → List Int
  | 0, n => [(n : Int)]
  | j + 1, n => if n > 127 then ((n % 128 + 128 : Nat) : Int) :: c_var j (n / 128) else [(n : Int)]
theorem c_var_length (j : Nat) : ∀ n, (c_var j n).length ≤ j + 1 := by
  induction j with
  | zero => intro n; simp [c_var]
  | succ j ih =>
    intro n
    unfold c_var
    split
    · have := ih (n / 128); simp; omega
    · simp
theorem c_var_div {j n : Nat} (h : n < 128 ^ (j + 2)) : n / 128 < 128 ^ (j + 1) := by
  rw [Nat.pow_succ] at h
  exact Nat.div_lt_of_lt_mul (by rw [Nat.mul_comm]; exact h)
theorem c_var_step {n : Nat} (h : n ≤ 9223372036854775807) : wrap64 (Int.tdiv (n : Int) 128) = ((n / 128 : Nat) : Int) ∧ (wrap64 (Int.tmod (n : Int) 128 + 128)) % 256 = ((n % 128 + 128 : Nat) : Int) := by
  rw [Int.tdiv_eq_ediv_of_nonneg (by omega), Int.tmod_eq_emod_of_nonneg (by omega), c_wrap (by omega) (by omega), c_wrap (by omega) (by omega)]
  omega

/-! ### within -/
def c_in (n l h : Int) : Bool := decide (l ≤ n) && decide (n ≤ h)
theorem c_in_iff {n l h : Int} : c_in n l h = true ↔ l ≤ n ∧ n ≤ h := by simp [c_in]
theorem c_in_no {n l h : Int} : ¬ c_in n l h = true ↔ n < l ∨ h < n := by rw [c_in_iff]; omega

/-! ### within_i -/
theorem c_within (n l h : Int) : impl_within.f n l h = some (c_in n l h) := by
  unfold impl_within.f c_in
  by_cases h0 : n ≥ l
  · rw [if_pos h0]; simp [h0]
  · rw [if_neg h0]; simp; omega

/-! ### vartext_i -/
theorem c_var_impl (j : Nat) : ∀ (k n : Nat) (acc : List Int), n < 128 ^ (j + 1) → n ≤ 9223372036854775807 → acc.length + j < 140737488355328 → j < k → impl_VarText.l0 k n acc = some (strOfNums (acc ++ c_var j n), true) := by
  induction j with
  | zero =>
    intro k n acc hn hm hl hk
    obtain ⟨k, rfl⟩ := c_up (k := k) (by omega)
    simp only [impl_VarText.l0]
    rw [if_neg (by omega), if_pos (by omega), c_var]
    congr 4
    simp
    omega
  | succ j ih =>
    intro k n acc hn hm hl hk
    obtain ⟨k, rfl⟩ := c_up (k := k) (by omega)
    obtain ⟨e1, e2⟩ := c_var_step hm
    simp only [impl_VarText.l0]
    by_cases h : n > 127
    · rw [if_pos (by omega), if_pos (by omega), e1, e2, ih k _ _ (c_var_div hn) (by omega) (by simp; omega) (by omega), c_var, if_pos h, List.append_assoc]
      rfl
    · rw [if_neg (by omega), if_pos (by omega), c_var, if_neg h]
      congr 4
      simp
      omega
theorem c_VarText {n : Nat} (h : n ≤ 1000000000) {k : Nat} (hk : 4 < k) : impl_VarText.f k n = some (strOfNums (c_var 4 n), true) := by
  have := c_var_impl 4 k n [] (by omega) (by omega) (by simp) hk
  unfold impl_VarText.f
  rw [c_within]
  simp only [Option.bind_some]
  rw [if_pos (c_in_iff.2 ⟨by omega, by omega⟩)]
  simpa using this
theorem c_VarText_no {n : Int} (h : n < 0 ∨ 1000000000 < n) (k : Nat) : impl_VarText.f k n = some ((⟨#[]⟩ : ByteArray), false) := by
  unfold impl_VarText.f
  rw [c_within]
  simp only [Option.bind_some]
  rw [if_neg (c_in_no.2 h)]

/-! ### readvar -/
def c_rv : Nat → Nat → Nat → List UInt8 → Option (Nat × Nat)
  | 0, _, _, _ => none
  | _ + 1, _, _, [] => none
  | j + 1, i, n, b :: l => if b.toNat > 127 then c_rv j (i + 1) (n + b.toNat % 128 * 128 ^ i) l else if (0 < i ∧ b.toNat = 0) ∨ n + b.toNat % 128 * 128 ^ i > 1000000000 then none else some (n + b.toNat % 128 * 128 ^ i, i + 1)
def c_rvo (start : Int) : Option (Nat × Nat) → Int × Int × Bool
  | none => (0, 0, false)
  | some p => ((p.1 : Int), start + (p.2 : Int), true)
theorem c_rv_some (j : Nat) : ∀ (i n : Nat) (l : List UInt8) (p : Nat × Nat), c_rv j i n l = some p → p.1 ≤ 1000000000 ∧ i < p.2 ∧ p.2 ≤ i + l.length := by
  induction j with
  | zero => intro i n l p h; simp [c_rv] at h
  | succ j ih =>
    intro i n l p h
    cases l with
    | nil => simp [c_rv] at h
    | cons b l =>
      rw [c_rv] at h
      split at h
      · obtain ⟨h1, h2, h3⟩ := ih _ _ _ _ h
        refine ⟨h1, by omega, ?_⟩
        rw [List.length_cons]
        omega
      · split at h
        · simp at h
        · rename_i h0
          injection h with h
          subst h
          refine ⟨by simp only; omega, by simp only; omega, ?_⟩
          rw [List.length_cons]
          simp only
          omega
theorem c_pw (i : Nat) (h : i < 5) : 128 ^ i = 1 ∧ i = 0 ∨ 128 ^ i = 128 ∧ i = 1 ∨ 128 ^ i = 16384 ∧ i = 2 ∨ 128 ^ i = 2097152 ∧ i = 3 ∨ 128 ^ i = 268435456 ∧ i = 4 := by
  have : i = 0 ∨ i = 1 ∨ i = 2 ∨ i = 3 ∨ i = 4 := by omega
  rcases this with rfl | rfl | rfl | rfl | rfl <;> simp
theorem c_next {n b i : Nat} (h : n < 128 ^ i) : n + b % 128 * 128 ^ i < 128 ^ (i + 1) := by
  rw [Nat.pow_succ]
  have h1 : b % 128 ≤ 127 := by omega
  have h2 : b % 128 * 128 ^ i ≤ 127 * 128 ^ i := Nat.mul_le_mul_right _ h1
  omega
theorem c_small {n i : Nat} (hi : i < 5) (h : n < 128 ^ (i + 1)) : n < 34359738368 := by
  have h1 : 128 ^ (i + 1) ≤ 128 ^ 5 := Nat.pow_le_pow_right (by omega) (by omega)
  omega

/-! ### readvar_i -/
theorem c_shl {x i : Nat} (hi : i < 5) (hx : x < 128) : shl .i64 (x : Int) (7 * (i : Int)) = ((x * 128 ^ i : Nat) : Int) := by
  have hm : min (7 * (i : Int)).toNat IntKind.i64.bits = 7 * i := by
    have : IntKind.i64.bits = 64 := rfl
    rw [this]
    omega
  unfold shl
  rw [hm, IntKind.wrap_i64]
  rcases c_pw i hi with ⟨e, rfl⟩ | ⟨e, rfl⟩ | ⟨e, rfl⟩ | ⟨e, rfl⟩ | ⟨e, rfl⟩ <;> rw [e] <;> simp <;> omega
theorem c_rv_impl (s : ByteArray) (hs : s.size ≤ 1048576) (p : Nat) (j : Nat) : ∀ (k i n : Nat), i + j = 5 → p + i ≤ s.size → n < 128 ^ i → 2 * j + 2 ≤ k → impl_ReadVar.l0 k s p n i = some (c_rvo p (c_rv j i n (s.data.toList.drop (p + i)))) := by
  induction j with
  | zero =>
    intro k i n hi hp hn hk
    obtain ⟨k, rfl⟩ : ∃ m, k = m + 2 := ⟨k - 2, by omega⟩
    rw [impl_ReadVar.l0, if_neg (by omega), impl_ReadVar.j1, if_neg (by decide)]
    rfl
  | succ j ih =>
    intro k i n hi hp hn hk
    obtain ⟨k, rfl⟩ : ∃ m, k = m + 2 := ⟨k - 2, by omega⟩
    have hi5 : i < 5 := by omega
    have e0 : Aside0 (wrap64 ((p : Int) + (i : Int)) = ((p + i : Nat) : Int)) := ⟨by rw [c_wrap (by omega) (by omega)]; omega⟩
    rw [impl_ReadVar.l0, if_pos (by omega), e0.out]
    clear e0
    by_cases hlt : p + i < s.size
    · obtain ⟨b, hb, hl⟩ := c_drop s (p + i) hlt
      have hb8 := b.toNat_lt
      have hsh := c_shl (x := b.toNat % 128) hi5 (by omega)
      have hnx := c_small hi5 (c_next (b := b.toNat) hn)
      have hnx2 := c_next (b := b.toNat) hn
      rw [impl_ReadVar.j1, if_pos (by simp; omega)]
      have e0 : Aside0 (wrap64 ((p : Int) + (i : Int)) = ((p + i : Nat) : Int)) := ⟨by rw [c_wrap (by omega) (by omega)]; omega⟩
      have e1 : Aside0 (wrap64 (7 * (i : Int)) = 7 * (i : Int)) := ⟨c_wrap (by omega) (by omega)⟩
      have e2 : Aside0 (wrap64 (b.toNat : Int) = (b.toNat : Int)) := ⟨c_wrap (by omega) (by omega)⟩
      have e3 : Int.tmod (b.toNat : Int) 128 = ((b.toNat % 128 : Nat) : Int) := by rw [Int.tmod_eq_emod_of_nonneg (by omega)]; omega
      have e4 : Aside0 (wrap64 ((n : Int) + ((b.toNat % 128 * 128 ^ i : Nat) : Int)) = ((n + b.toNat % 128 * 128 ^ i : Nat) : Int)) := ⟨by rw [c_wrap (by omega) (by omega)]; omega⟩
      have e5 : Aside0 (wrap64 ((i : Int) + 1) = ((i + 1 : Nat) : Int)) := ⟨by rw [c_wrap (by omega) (by omega)]; omega⟩
      have e6 : Aside0 (wrap64 (((p + i : Nat) : Int) + 1) = (p : Int) + ((i + 1 : Nat) : Int)) := ⟨by rw [c_wrap (by omega) (by omega)]; omega⟩
      rw [e0.out, e1.out, hb, e2.out, e3, hsh, e4.out, e5.out, e6.out, hl, c_rv]
      clear e0 e1 e2 e3 e4 e5 e6 hsh hb hl
      rw [if_pos (by omega), if_pos (by omega), if_pos (by omega)]
      by_cases hc : b.toNat > 127
      · rw [if_pos (by omega), if_pos hc, ih k (i + 1) _ (by omega) (by omega) hnx2 (by omega)]
        rfl
      · rw [if_neg (by omega), if_neg hc]
        by_cases h0 : 0 < i
        · rw [if_pos (by omega)]
          by_cases hz : b.toNat = 0
          · rw [if_pos (by omega), if_pos (Or.inl ⟨h0, hz⟩)]; rfl
          · rw [if_neg (by omega)]
            by_cases hm : n + b.toNat % 128 * 128 ^ i > 1000000000
            · rw [if_pos (by omega), if_pos (Or.inr hm)]; rfl
            · rw [if_neg (by omega), if_neg (by omega)]; rfl
        · rw [if_neg (by omega)]
          by_cases hm : n + b.toNat % 128 * 128 ^ i > 1000000000
          · rw [if_pos (by omega), if_pos (Or.inr hm)]; rfl
          · rw [if_neg (by omega), if_neg (by omega)]; rfl
    · rw [impl_ReadVar.j1, if_neg (by simp; omega), c_drop_end s (p + i) (by omega)]
      rfl
def c_readVar (s : ByteArray) (p : Int) : Int × Int × Bool := if c_in p 0 s.size = true then c_rvo p (c_rv 5 0 0 (s.data.toList.drop p.toNat)) else (0, 0, false)
theorem c_iReadVar (s : ByteArray) (hs : s.size ≤ 1048576) (p : Int) (k : Nat) (hk : 12 ≤ k) : impl_ReadVar.f k s p = some (c_readVar s p) := by
  unfold impl_ReadVar.f c_readVar
  rw [c_within]
  simp only [Option.bind_some]
  by_cases h : c_in p 0 s.size = true
  · rw [if_pos h, if_pos h]
    rw [c_in_iff] at h
    obtain ⟨q, rfl⟩ := Int.eq_ofNat_of_zero_le h.1
    exact c_rv_impl s hs q 5 k 0 0 (by omega) (by omega) (by omega) (by omega)
  · rw [if_neg h, if_neg h]

/-! ### shorttext_i -/
theorem c_ShortText_no {s : ByteArray} (h : 20000 < s.size) (k : Nat) : impl_ShortText.f k s = some ((⟨#[]⟩ : ByteArray), false) := by
  unfold impl_ShortText.f
  rw [if_pos (by omega)]
theorem c_ShortText {s : ByteArray} (h : s.size ≤ 20000) {k : Nat} (hk : 4 < k) : impl_ShortText.f k s = some (strOfNums (c_var 4 s.size) ++ s, true) := by
  unfold impl_ShortText.f
  rw [if_neg (by omega), c_VarText (by omega) hk]
  simp only [Option.bind_some]
  rw [if_pos]
  rw [strOfNums_size]
  have := c_var_length 4 s.size
  omega

/-! ### readshort -/
def c_readShort (s : ByteArray) (p : Int) : ByteArray × Int × Bool :=
  if (c_readVar s p).2.2 = true then (if (c_readVar s p).1 > 20000 then ((⟨#[]⟩ : ByteArray), 0, false) else if (c_readVar s p).1 > (s.size : Int) - (c_readVar s p).2.1 then ((⟨#[]⟩ : ByteArray), 0, false)
    else (s.extract (c_readVar s p).2.1.toNat ((c_readVar s p).2.1 + (c_readVar s p).1).toNat, (c_readVar s p).2.1 + (c_readVar s p).1, true)) else ((⟨#[]⟩ : ByteArray), 0, false)
theorem c_readVar_ok {s : ByteArray} {p : Int} (hs : s.size ≤ 1048576) (h : (c_readVar s p).2.2 = true) : 0 ≤ (c_readVar s p).1 ∧ (c_readVar s p).1 ≤ 1000000000 ∧ 0 ≤ (c_readVar s p).2.1 ∧ (c_readVar s p).2.1 ≤ s.size := by
  unfold c_readVar at h ⊢
  by_cases hi : c_in p 0 s.size = true
  · rw [if_pos hi] at h ⊢
    rw [c_in_iff] at hi
    cases hr : c_rv 5 0 0 (s.data.toList.drop p.toNat) with
    | none => rw [hr] at h; simp [c_rvo] at h
    | some q =>
      obtain ⟨h1, h2, h3⟩ := c_rv_some 5 0 0 _ q hr
      rw [List.length_drop, data_length] at h3
      simp only [c_rvo]
      omega
  · rw [if_neg hi] at h
    simp at h
theorem c_readShort_impl (s : ByteArray) (p : Int) (hs : s.size ≤ 1048576) (k : Nat) (h : impl_ReadVar.f k s p = some (c_readVar s p)) : impl_ReadShort.f k s p = some (c_readShort s p) := by
  unfold impl_ReadShort.f c_readShort
  rw [h]
  simp only [Option.bind_some]
  by_cases hr : (c_readVar s p).2.2 = true
  · obtain ⟨h0, h1, h2, h3⟩ := c_readVar_ok hs hr
    rw [if_pos hr, if_pos hr]
    generalize (c_readVar s p).1 = n at *
    generalize (c_readVar s p).2.1 = x at *
    have e1 : Aside0 (wrap64 ((s.size : Int) - x) = (s.size : Int) - x) := ⟨c_wrap (by omega) (by omega)⟩
    have e2 : Aside0 (wrap64 (x + n) = x + n) := ⟨c_wrap (by omega) (by omega)⟩
    rw [e1.out, e2.out]
    clear e1 e2
    by_cases h4 : n > 20000
    · rw [if_pos h4, if_pos h4]
    · rw [if_neg h4, if_neg h4]
      by_cases h5 : n > (s.size : Int) - x
      · rw [if_pos h5, if_pos h5]
      · rw [if_neg h5, if_neg h5, if_pos h2, if_pos (by omega), if_pos (by omega)]
  · rw [if_neg hr, if_neg hr]

/-! ### hexfig -/
def c_fig (x : Int) : Int := if x < 10 then 48 + x else 87 + x
theorem c_cases16 {x : Int} (h0 : 0 ≤ x) (h1 : x < 16) : x = 0 ∨ x = 1 ∨ x = 2 ∨ x = 3 ∨ x = 4 ∨ x = 5 ∨ x = 6 ∨ x = 7 ∨ x = 8 ∨ x = 9 ∨ x = 10 ∨ x = 11 ∨ x = 12 ∨ x = 13 ∨ x = 14 ∨ x = 15 := by omega

/-! ### hex -/
def c_hex (l : List UInt8) : List Int := l.flatMap fun b => [c_fig ((b.toNat : Int) / 16), c_fig ((b.toNat : Int) % 16)]
theorem c_hex_cons (b : UInt8) (l : List UInt8) : c_hex (b :: l) = [c_fig ((b.toNat : Int) / 16), c_fig ((b.toNat : Int) % 16)] ++ c_hex l := rfl
theorem c_hexbt {x : Int} (h0 : 0 ≤ x) (h1 : x < 16) : bt (⟨#[48, 49, 50, 51, 52, 53, 54, 55, 56, 57, 97, 98, 99, 100, 101, 102]⟩ : ByteArray) x = c_fig x := by
  rcases c_cases16 h0 h1 with rfl | rfl | rfl | rfl | rfl | rfl | rfl | rfl | rfl | rfl | rfl | rfl | rfl | rfl | rfl | rfl <;> rfl
theorem c_hexl_impl (s : ByteArray) (hs : s.size ≤ 20000) (d : Nat) : ∀ (k i : Nat) (acc : List Int), s.size - i = d → i ≤ s.size → d < k → acc.length + 2 * d < 140737488355328 → impl_Hex.l0 k s acc i = some (strOfNums (acc ++ c_hex (s.data.toList.drop i)), true) := by
  induction d with
  | zero =>
    intro k i acc hd hi hk hb
    obtain ⟨k, rfl⟩ := c_up (k := k) (by omega)
    simp only [impl_Hex.l0]
    rw [if_neg (by omega), c_drop_end s i (by omega)]
    simp [c_hex]
  | succ d ih =>
    intro k i acc hd hi hk hb
    obtain ⟨k, rfl⟩ := c_up (k := k) (by omega)
    obtain ⟨b, hb', hl⟩ := c_drop s i (by omega)
    have hlt := b.toNat_lt
    have w : wrap64 ((i : Int) + 1) = ((i + 1 : Nat) : Int) := by rw [c_wrap (by omega) (by omega)]; omega
    have e1 : (Int.tdiv (b.toNat : Int) 16) % 256 = (b.toNat : Int) / 16 := by
      rw [Int.tdiv_eq_ediv_of_nonneg (by omega)]; omega
    have e2 : Int.tmod (b.toNat : Int) 16 = (b.toNat : Int) % 16 := Int.tmod_eq_emod_of_nonneg (by omega)
    simp only [impl_Hex.l0]
    rw [if_pos (by omega), if_pos (by omega), hb', e1, e2, if_pos (by omega), if_pos (by omega), if_pos (by omega), if_pos (by omega), c_hexbt (by omega) (by omega), c_hexbt (by omega) (by omega)]
    simp only [Option.bind_some, List.length_cons, List.length_nil]
    rw [if_pos (by omega), w, ih k (i + 1) _ (by omega) (by omega) (by omega) (by simp; omega), hl, c_hex_cons, List.append_assoc]
theorem c_Hex_impl (s : ByteArray) (k : Nat) (hk : 20000 < k) : impl_Hex.f k s = some (if s.size > 20000 then ((⟨#[]⟩ : ByteArray), false) else (strOfNums (c_hex s.data.toList), true)) := by
  unfold impl_Hex.f
  by_cases h : s.size > 20000
  · rw [if_pos (by omega), if_pos h]
  · rw [if_neg (by omega), if_neg h]
    have := c_hexl_impl s (by omega) s.size k 0 [] (by omega) (by omega) (by omega) (by simp; omega)
    simpa using this

/-! ### unhex -/
def c_val (x : Int) : Int := if 48 ≤ x ∧ x ≤ 57 then x - 48 else if 97 ≤ x ∧ x ≤ 102 then x - 87 else -1
theorem c_idx_all : (List.range 256).all (fun n => Lib.indexByte [48, 49, 50, 51, 52, 53, 54, 55, 56, 57, 97, 98, 99, 100, 101, 102] (n : Nat).toUInt8 == c_val (n : Int)) = true := by kernel_rfl
theorem c_idx (n : Nat) (h : n < 256) : strings_IndexByte.f (⟨#[48, 49, 50, 51, 52, 53, 54, 55, 56, 57, 97, 98, 99, 100, 101, 102]⟩ : ByteArray) (n : Int) = some (c_val (n : Int)) := by
  have := List.all_eq_true.1 c_idx_all n (List.mem_range.2 h)
  show some (Lib.indexByte [48, 49, 50, 51, 52, 53, 54, 55, 56, 57, 97, 98, 99, 100, 101, 102] (n : Int).toNat.toUInt8) = _
  rw [Int.toNat_natCast, eq_of_beq this]
theorem c_val_le (n : Nat) : -1 ≤ c_val (n : Int) ∧ c_val (n : Int) ≤ 15 := by
  unfold c_val
  split
  · omega
  · split <;> omega

/-! ### roundtrip -/
def c_vB (j m : Nat) : List UInt8 := (c_var j m).map fun n => UInt8.ofNat n.toNat
theorem c_vB_str (j m : Nat) : (strOfNums (c_var j m)).data.toList = c_vB j m := rfl
theorem c_vB_len (j m : Nat) : (c_vB j m).length = (c_var j m).length := by simp [c_vB]
theorem c_rv_var (rest : List UInt8) (j : Nat) : ∀ (i n m : Nat), m < 128 ^ (j + 1) → n + m * 128 ^ i ≤ 1000000000 → (0 < i → m ≠ 0) → c_rv (j + 1) i n (c_vB j m ++ rest) = some (n + m * 128 ^ i, i + (c_vB j m).length) := by
  induction j with
  | zero =>
    intro i n m hm hb h0
    have hb8 : (UInt8.ofNat ((m : Int)).toNat).toNat = m := by simp; omega
    have e : c_vB 0 m = [UInt8.ofNat ((m : Int)).toNat] := rfl
    have hmod : m % 128 = m := by omega
    rw [e, List.singleton_append, c_rv, hb8, if_neg (by omega), hmod, if_neg (by
      intro h
      rcases h with h | h
      · exact h0 h.1 h.2
      · omega)]
    rfl
  | succ j ih =>
    intro i n m hm hb h0
    by_cases h : m > 127
    · have hb8 : (UInt8.ofNat (((m % 128 + 128 : Nat) : Int)).toNat).toNat = m % 128 + 128 := by simp; omega
      have e : c_vB (j + 1) m = UInt8.ofNat (((m % 128 + 128 : Nat) : Int)).toNat :: c_vB j (m / 128) := by unfold c_vB; rw [c_var, if_pos h]; rfl
      have hmod : (m % 128 + 128) % 128 = m % 128 := by omega
      have hsum : n + m % 128 * 128 ^ i + m / 128 * 128 ^ (i + 1) = n + m * 128 ^ i := by
        rw [Nat.pow_succ, Nat.add_assoc]
        congr 1
        have h1 : m / 128 * (128 ^ i * 128) = (m / 128 * 128) * 128 ^ i := by rw [Nat.mul_comm (128 ^ i) 128, Nat.mul_assoc]
        rw [h1, ← Nat.add_mul]
        congr 1
        omega
      rw [e, List.cons_append, c_rv, hb8, if_pos (by omega), hmod, ih (i + 1) _ (m / 128) (c_var_div hm) (by omega) (fun _ => by omega), hsum, List.length_cons]
      congr 2
      omega
    · have hb8 : (UInt8.ofNat ((m : Int)).toNat).toNat = m := by simp; omega
      have e : c_vB (j + 1) m = [UInt8.ofNat ((m : Int)).toNat] := by unfold c_vB; rw [c_var, if_neg h]; rfl
      have hmod : m % 128 = m := by omega
      rw [e, List.singleton_append, c_rv, hb8, if_neg (by omega), hmod, if_neg (by
        intro h
        rcases h with h | h
        · exact h0 h.1 h.2
        · omega)]
      rfl
theorem c_rv_five (n : Nat) (hn : n ≤ 1000000000) (rest : List UInt8) : c_rv 5 0 0 (c_vB 4 n ++ rest) = some (n, (c_vB 4 n).length) := by
  have := c_rv_var rest 4 0 0 n (by omega) (by omega) (fun h => absurd h (by omega))
  simpa using this
theorem c_appData (a b : ByteArray) : (a ++ b).data.toList = a.data.toList ++ b.data.toList := by simp
theorem c_back_var (n : Nat) (hn : n ≤ 1000000000) : c_readVar (((⟨#[120]⟩ : ByteArray) ++ strOfNums (c_var 4 n)) ++ (⟨#[121]⟩ : ByteArray)) 1 = ((n : Int), (1 : Int) + ((c_vB 4 n).length : Int), true) := by
  have hd : (((⟨#[120]⟩ : ByteArray) ++ strOfNums (c_var 4 n)) ++ (⟨#[121]⟩ : ByteArray)).data.toList = 120 :: (c_vB 4 n ++ [121]) := by
    rw [c_appData, c_appData, c_vB_str]
    rfl
  have hs : (((⟨#[120]⟩ : ByteArray) ++ strOfNums (c_var 4 n)) ++ (⟨#[121]⟩ : ByteArray)).size = (c_vB 4 n).length + 2 := by
    rw [← data_length, hd]
    simp
  unfold c_readVar
  rw [if_pos (c_in_iff.2 ⟨by omega, by omega⟩), hd]
  have : (120 :: (c_vB 4 n ++ [121])).drop (1 : Int).toNat = c_vB 4 n ++ [121] := rfl
  rw [this, c_rv_five n hn]
  rfl
theorem c_back_short (t : ByteArray) (ht : t.size ≤ 300) : c_readShort (strOfNums (c_var 4 t.size) ++ t) 0 = (t, ((strOfNums (c_var 4 t.size) ++ t).size : Int), true) := by
  have hd : (strOfNums (c_var 4 t.size) ++ t).data.toList = c_vB 4 t.size ++ t.data.toList := by rw [c_appData, c_vB_str]
  have hs : (strOfNums (c_var 4 t.size) ++ t).size = (c_vB 4 t.size).length + t.size := by
    rw [← data_length, hd, List.length_append, data_length]
  have hv : c_readVar (strOfNums (c_var 4 t.size) ++ t) 0 = ((t.size : Int), (0 : Int) + ((c_vB 4 t.size).length : Int), true) := by
    unfold c_readVar
    rw [if_pos (c_in_iff.2 ⟨by omega, by omega⟩), hd]
    have : (c_vB 4 t.size ++ t.data.toList).drop (0 : Int).toNat = c_vB 4 t.size ++ t.data.toList := rfl
    rw [this, c_rv_five _ (by omega)]
    rfl
  unfold c_readShort
  rw [hv]
  dsimp only
  rw [if_pos rfl, if_neg (by omega), if_neg (by rw [hs]; omega)]
  have hx : (strOfNums (c_var 4 t.size) ++ t).extract ((0 : Int) + ((c_vB 4 t.size).length : Int)).toNat ((0 : Int) + ((c_vB 4 t.size).length : Int) + (t.size : Int)).toNat = t := by
    apply c_ext
    have e1 : ((0 : Int) + ((c_vB 4 t.size).length : Int)).toNat = (c_vB 4 t.size).length := by omega
    have e2 : ((0 : Int) + ((c_vB 4 t.size).length : Int) + (t.size : Int)).toNat = (c_vB 4 t.size).length + t.size := by omega
    rw [e1, e2, c_extract, hd, List.take_of_length_le (by rw [List.length_append, data_length]; exact Nat.le_refl _), List.drop_left]
  rw [hx, hs]
  congr 2
  omega
theorem c_val_fig {x : Int} (h0 : 0 ≤ x) (h1 : x < 16) : c_val (c_fig x) = x ∧ 0 ≤ c_fig x ∧ c_fig x < 256 := by
  rcases c_cases16 h0 h1 with rfl | rfl | rfl | rfl | rfl | rfl | rfl | rfl | rfl | rfl | rfl | rfl | rfl | rfl | rfl | rfl <;> decide
def c_hB (l : List UInt8) : List UInt8 := (c_hex l).map fun n => UInt8.ofNat n.toNat
theorem c_hB_str (l : List UInt8) : (strOfNums (c_hex l)).data.toList = c_hB l := rfl
theorem c_hB_cons (b : UInt8) (l : List UInt8) : c_hB (b :: l) = UInt8.ofNat (c_fig ((b.toNat : Int) / 16)).toNat :: UInt8.ofNat (c_fig ((b.toNat : Int) % 16)).toNat :: c_hB l := rfl
theorem c_hB_len : ∀ l : List UInt8, (c_hB l).length = 2 * l.length
  | [] => rfl
  | b :: l => by rw [c_hB_cons, List.length_cons, List.length_cons, c_hB_len l, List.length_cons]; omega
theorem c_hB_drop : ∀ (i : Nat) (l : List UInt8), (c_hB l).drop (2 * i) = c_hB (l.drop i)
  | 0, _ => rfl
  | i + 1, [] => by simp [c_hB, c_hex]
  | i + 1, b :: l => by
    rw [c_hB_cons, List.drop_succ_cons, ← c_hB_drop i l]
    rfl
theorem c_figByte {x : Int} (h0 : 0 ≤ x) (h1 : x < 16) : ((UInt8.ofNat (c_fig x).toNat).toNat : Int) = c_fig x := by
  obtain ⟨_, a, b⟩ := c_val_fig h0 h1
  have : (UInt8.ofNat (c_fig x).toNat).toNat = (c_fig x).toNat := by simp; omega
  rw [this]
  omega
theorem c_back_hexl (T : List UInt8) (hT : T.length ≤ 300) (d : Nat) : ∀ (k i : Nat) (acc : List Int), T.length - i = d → i ≤ T.length → acc.length ≤ i → d < k →
    impl_Unhex.l0 k (strOfNums (c_hex T)) acc ((2 * i : Nat) : Int) = some (strOfNums (acc ++ (T.drop i).map fun b => (b.toNat : Int)), true) := by
  have hsz : (strOfNums (c_hex T)).size = 2 * T.length := by rw [← data_length, c_hB_str, c_hB_len]
  induction d with
  | zero =>
    intro k i acc hd hi ha hk
    obtain ⟨k, rfl⟩ := c_up (k := k) (by omega)
    rw [impl_Unhex.l0, if_neg (by omega), List.drop_eq_nil_of_le (by omega), List.map_nil, List.append_nil]
  | succ d ih =>
    intro k i acc hd hi ha hk
    obtain ⟨k, rfl⟩ := c_up (k := k) (by omega)
    obtain ⟨a, ea, da⟩ := c_drop (strOfNums (c_hex T)) (2 * i) (by omega)
    obtain ⟨b, eb, db⟩ := c_drop (strOfNums (c_hex T)) (2 * i + 1) (by omega)
    have hdr := List.drop_eq_getElem_cons (l := T) (i := i) (by omega)
    obtain ⟨c, hc⟩ : ∃ c, c = T[i] := ⟨_, rfl⟩
    rw [← hc] at hdr
    have hc8 := c.toNat_lt
    rw [c_hB_str, c_hB_drop, hdr, c_hB_cons] at da
    have ha' : a = UInt8.ofNat (c_fig ((c.toNat : Int) / 16)).toNat := (List.cons.inj da).1.symm
    rw [c_hB_str, ← (List.cons.inj da).2] at db
    have hb' : b = UInt8.ofNat (c_fig ((c.toNat : Int) % 16)).toNat := (List.cons.inj db).1.symm
    have fa := c_val_fig (x := (c.toNat : Int) / 16) (by omega) (by omega)
    have fb := c_val_fig (x := (c.toNat : Int) % 16) (by omega) (by omega)
    have q1 : ¬ (c.toNat : Int) / 16 < 0 := by omega
    have q2 : ¬ (c.toNat : Int) % 16 < 0 := by omega
    have q3 : acc.length < 140737488355328 := by omega
    have q4 : ((2 * i : Nat) : Int) < ((strOfNums (c_hex T)).size : Int) := by omega
    have q5 : (0 : Int) ≤ ((2 * i : Nat) : Int) := by omega
    have q6 : (0 : Int) ≤ ((2 * i + 1 : Nat) : Int) := by omega
    have q7 : ((2 * i + 1 : Nat) : Int) < ((strOfNums (c_hex T)).size : Int) := by omega
    have ihh := ih k (i + 1) (acc ++ [(c.toNat : Int)]) (by omega) (by omega) (by rw [List.length_append, List.length_singleton]; omega) (by omega)
    have va : c_val (a.toNat : Int) = (c.toNat : Int) / 16 := by rw [ha', c_figByte (by omega) (by omega), fa.1]
    have vb : c_val (b.toNat : Int) = (c.toNat : Int) % 16 := by rw [hb', c_figByte (by omega) (by omega), fb.1]
    have w1 : wrap64 (((2 * i : Nat) : Int) + 1) = ((2 * i + 1 : Nat) : Int) := by rw [c_wrap (by omega) (by omega)]; omega
    have w2 : wrap64 (((2 * i : Nat) : Int) + 2) = ((2 * (i + 1) : Nat) : Int) := by rw [c_wrap (by omega) (by omega)]; omega
    have w3 : (wrap64 ((wrap64 (16 * ((c.toNat : Int) / 16))) + (c.toNat : Int) % 16)) % 256 = (c.toNat : Int) := by
      rw [c_wrap (n := 16 * ((c.toNat : Int) / 16)) (by omega) (by omega), c_wrap (by omega) (by omega)]
      omega
    rw [impl_Unhex.l0, if_pos q4, if_pos q5, ea, c_idx _ a.toNat_lt]
    rw [Option.bind_some]
    rw [w1, if_pos q6, if_pos q7, eb, c_idx _ b.toNat_lt]
    rw [Option.bind_some]
    rw [va, vb, if_neg q1, if_neg q2, if_pos q3, w3, w2, ihh, hdr, List.map_cons, List.append_assoc]
    rfl
theorem c_back_hex (t : ByteArray) (ht : t.size ≤ 300) (k : Nat) (hk : 302 < k) : impl_Unhex.f k (strOfNums (c_hex t.data.toList)) = some (t, true) := by
  have hlen : t.data.toList.length = t.size := data_length t
  have hsz : (strOfNums (c_hex t.data.toList)).size = 2 * t.size := by rw [← data_length, c_hB_str, c_hB_len, hlen]
  obtain ⟨k, rfl⟩ := c_up (k := k) (by omega)
  unfold impl_Unhex.f
  rw [if_pos (by omega), impl_Unhex.j0, if_neg (by rw [decide_eq_true_iff]; omega)]
  have := c_back_hexl t.data.toList (by omega) t.data.toList.length k 0 [] (by omega) (by omega) (by simp) (by omega)
  have e : strOfNums ([] ++ (t.data.toList.drop 0).map fun b => (b.toNat : Int)) = t := by
    apply c_ext
    show ((t.data.toList).map fun b => (b.toNat : Int)).map (fun n => UInt8.ofNat n.toNat) = t.data.toList
    rw [List.map_map]
    conv => rhs; rw [← List.map_id t.data.toList]
    apply List.map_congr_left
    intro b _
    simp
  rw [e] at this
  exact this
theorem c_back_dec (n : Int) (h0 : 0 ≤ n) (h1 : n ≤ 1000000000) : impl_Decimal.f n = some (⟨(Lib.itoa n).toArray⟩ : ByteArray) ∧ impl_ReadDecimal.f (⟨(Lib.itoa n).toArray⟩ : ByteArray) = some (n, true) := by
  have hl := Lib.itoa_length_le n (by omega) (by omega)
  have hs : (⟨(Lib.itoa n).toArray⟩ : ByteArray).size = (Lib.itoa n).length := by simp [ByteArray.size]
  unfold impl_Decimal.f impl_ReadDecimal.f
  rw [if_pos ⟨by omega, by omega⟩, if_pos (by omega), c_read_yes _ n h0 h1 (by simp)]
  exact ⟨rfl, rfl⟩

/-! ### places -/
theorem c_big (l : List Int) : laws_big.f l = some (decide ((l.length : Int) > 1048576)) := rfl

/-! ### the law -/
theorem c_number {l : List Int} {i : Int} (h : Int) (s : CSt l i) : ∃ n i' h', spec_l01Number.f l i h = some (n, i', h') ∧ CSt l i' := by
  obtain ⟨x, i1, h1, e1, _, _, _, s1⟩ := c_below h s 4
  unfold spec_l01Number.f
  rw [e1]
  simp only [Option.bind_some]
  by_cases c0 : x = 0
  · obtain ⟨y, i2, h2, e2, _, s2⟩ := c_pick h1 s1 [(-1), 0, 127, 128, 16383, 16384, 1000000000, 1000000001, 9223372036854775807, (-9223372036854775808)] (by simp)
    rw [if_pos c0, e2]
    exact ⟨_, _, _, rfl, s2⟩
  · rw [if_neg c0]
    by_cases c1 : x = 1
    · obtain ⟨y, i2, h2, e2, _, _, _, s2⟩ := c_below h1 s1 1000000000
      rw [if_pos c1, e2]
      exact ⟨_, _, _, rfl, s2⟩
    · obtain ⟨y, i2, h2, e2, _, _, _, s2⟩ := c_below h1 s1 400
      rw [if_neg c1, e2]
      exact ⟨_, _, _, rfl, s2⟩
theorem c_drawVar (l : List Int) (hl : l.length ≤ 4611686018427387904) : ∃ n, ∀ k, 4000 < k → spec_DrawVarText.f k l = some n := by
  obtain ⟨h0, e0⟩ := c_l01New l hl
  obtain ⟨n, i', h', e1, _⟩ := c_number h0 (⟨by omega, by omega, hl⟩ : CSt l 0)
  refine ⟨n, fun k hk => ?_⟩
  unfold spec_DrawVarText.f
  rw [e0 k hk]
  simp only [Option.bind_some]
  rw [e1]
  rfl
theorem c_drawHex (l : List Int) (hl : l.length ≤ 4611686018427387904) : ∃ t, ∀ k, 40000 < k → spec_DrawHex.f k l = some t := by
  obtain ⟨h0, e0⟩ := c_l01New l hl
  obtain ⟨f, i1, h1, e1, s1⟩ := c_once h0 (⟨by omega, by omega, hl⟩ : CSt l 0) 60
  by_cases hf : f = true
  · obtain ⟨y, i2, h2, e2, hy0, hy1, _, s2⟩ := c_below h1 s1 2
    have := hy1 (by omega)
    obtain ⟨t, _, q⟩ := c_long (20000 + y).toNat (by omega) 200
    refine ⟨t, fun k hk => ?_⟩
    unfold spec_DrawHex.f
    rw [e0 k (by omega)]
    simp only [Option.bind_some]
    rw [e1]
    simp only [Option.bind_some]
    rw [if_pos hf, e2]
    simp only [Option.bind_some]
    have ew : wrap64 (20000 + y) = (((20000 + y).toNat : Nat) : Int) := by rw [c_wrap (by omega) (by omega)]; omega
    rw [ew, q k (by omega)]
    rfl
  · obtain ⟨y, i2, h2, e2, hy0, hy1, _, s2⟩ := c_below h1 s1 30
    have := hy1 (by omega)
    obtain ⟨t, i3, h3, _, _, q⟩ := c_text h2 s2 y (by omega)
    refine ⟨t, fun k hk => ?_⟩
    unfold spec_DrawHex.f
    rw [e0 k (by omega)]
    simp only [Option.bind_some]
    rw [e1]
    simp only [Option.bind_some]
    rw [if_neg hf, e2]
    simp only [Option.bind_some]
    rw [q k (by omega)]
    rfl
theorem c_num2 (k : Nat) (hk : 40000 < k) (n : Nat) (t : ByteArray) (ht : t.size ≤ 300) : laws_FnNumbers.j2 k n (strOfNums (c_var 4 n)) true n ((1 : Int) + ((c_vB 4 n).length : Int)) true n true t = some true := by
  obtain ⟨k, rfl⟩ := c_up (k := k) (by omega)
  have hv := c_var_length 4 t.size
  have hA : (strOfNums (c_var 4 t.size) ++ t).size ≤ 1048576 := by rw [ByteArray.size_append, strOfNums_size]; omega
  have hs : ((strOfNums (c_var 4 n)).size : Int) = ((c_vB 4 n).length : Int) := by rw [strOfNums_size, c_vB_len]
  have hn := c_var_length 4 n
  have hw : wrap64 (((strOfNums (c_var 4 n)).size : Int) + 1) = (1 : Int) + ((c_vB 4 n).length : Int) := by
    rw [hs, c_vB_len, c_wrap (by omega) (by omega)]
    omega
  have f1 : impl_ShortText.f k t = some (strOfNums (c_var 4 t.size) ++ t, true) := c_ShortText (by omega) (by omega)
  have f2 : impl_ReadShort.f k (strOfNums (c_var 4 t.size) ++ t) 0 = some (t, ((strOfNums (c_var 4 t.size) ++ t).size : Int), true) := by
    rw [c_readShort_impl _ 0 hA k (c_iReadVar _ hA 0 k (by omega)), c_back_short t ht]
  have f3 : impl_Hex.f k t = some (strOfNums (c_hex t.data.toList), true) := by
    rw [c_Hex_impl t k (by omega), if_neg (by omega)]
  have f4 := c_back_hex t ht k (by omega)
  obtain ⟨Y, hY⟩ : ∃ Y, Y = laws_FnNumbers.j2 (k + 1) n (strOfNums (c_var 4 n)) true n ((1 : Int) + ((c_vB 4 n).length : Int)) true n true t := ⟨_, rfl⟩
  rw [← hY]
  rw [laws_FnNumbers.j2, f1, Option.bind_some, f2, Option.bind_some, f3, Option.bind_some, f4, Option.bind_some, hw] at hY
  rw [hY]
  simp only [if_true, beq_self_eq_true]
theorem c_num1 (k : Nat) (hk : 50000 < k) (l : List Int) (hl : l.length ≤ 4611686018427387904) (n : Nat) (hn : n ≤ 1000000000) : laws_FnNumbers.j1 k l n = some true := by
  obtain ⟨k, rfl⟩ := c_up (k := k) (by omega)
  obtain ⟨t, ht⟩ := c_drawHex l hl
  have hv := c_var_length 4 n
  have e120 : (⟨#[120]⟩ : ByteArray).size = 1 := rfl
  have e121 : (⟨#[121]⟩ : ByteArray).size = 1 := rfl
  have hS : (((⟨#[120]⟩ : ByteArray) ++ strOfNums (c_var 4 n)) ++ (⟨#[121]⟩ : ByteArray)).size ≤ 1048576 := by rw [ByteArray.size_append, ByteArray.size_append, strOfNums_size, e120, e121]; omega
  obtain ⟨d1, d2⟩ := c_back_dec (n : Int) (by omega) (by omega)
  rw [laws_FnNumbers.j1, c_VarText hn (by omega)]
  simp only [Option.bind_some]
  rw [if_pos (by rw [strOfNums_size]; omega), if_pos (by rw [ByteArray.size_append, strOfNums_size, e120]; omega), c_iReadVar _ hS 1 k (by omega), c_back_var n hn]
  simp only [Option.bind_some]
  rw [d1]
  simp only [Option.bind_some]
  rw [d2]
  simp only [Option.bind_some]
  rw [ht k (by omega)]
  simp only [Option.bind_some]
  by_cases hb : (t.size : Int) > 300
  · rw [if_pos hb]
    exact c_num2 k (by omega) n _ (by decide)
  · rw [if_neg hb]
    exact c_num2 k (by omega) n t (by omega)
theorem FnNumbers : laws_FnNumbers.Pure := by
  intro l hl _ _
  unfold maxLen at hl
  refine ⟨60000, ?_⟩
  unfold laws_FnNumbers.f
  rw [c_big]
  simp only [Option.bind_some]
  by_cases h : (l.length : Int) > 1048576
  · rw [if_pos (decide_eq_true h)]
  · rw [if_neg (by rw [decide_eq_true_iff]; exact h)]
    obtain ⟨n, hn⟩ := c_drawVar l (by omega)
    rw [hn _ (by omega)]
    simp only [Option.bind_some]
    by_cases h0 : n < 0
    · rw [if_pos h0, laws_FnNumbers.j0, if_pos rfl]
      exact c_num1 _ (by omega) l (by omega) 12345 (by omega)
    · rw [if_neg h0, laws_FnNumbers.j0]
      by_cases h1 : n > 1000000000
      · rw [if_pos (decide_eq_true h1)]
        exact c_num1 _ (by omega) l (by omega) 12345 (by omega)
      · rw [if_neg (by rw [decide_eq_true_iff]; exact h1)]
        obtain ⟨m, rfl⟩ := Int.eq_ofNat_of_zero_le (show 0 ≤ n by omega)
        exact c_num1 _ (by omega) l (by omega) m (by omega)

end Go.Proofs.YtenhjngddagghaaDoor.Pure
