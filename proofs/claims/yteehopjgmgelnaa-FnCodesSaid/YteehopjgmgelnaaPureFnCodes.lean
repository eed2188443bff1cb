/- FnCodes: what is written of a drawn code is read back as it was, a code that does not fit is refused by both, and what is read of a drawn text is written as it stood. No condition (the law itself answers true of a draw beyond 2^20 bytes). -/
import Derived.Test.YteehopjgmgelnaaMFnCodesx7
namespace Go.Proofs.Yteehopjgmgelnaa.Pure
open Go.RowKit Go.Proofs.Yteehopjgmgelnaa.PFnCodes Go.Proofs.YteehopjgmgelnaaW.PrintWords Go.Proofs.YteehopjgmgelnaaW.PrintLast
set_option linter.unusedVariables false
set_option linter.unusedSimpArgs false

/-! ### base -/
theorem c_wrap {n : Int} (h0 : -9223372036854775808 ≤ n) (h1 : n ≤ 9223372036854775807) : wrap64 n = n := by unfold wrap64; omega
theorem c_wf {n : Int} (h : (Lit.int .i64 n).wf = true) : -9223372036854775808 ≤ n ∧ n ≤ 9223372036854775807 := by
  simpa [Lit.wf, IntKind.min, IntKind.max, IntKind.signed, IntKind.bits] using h
theorem c_wf32 {n : Int} (h : (Lit.int .u32 n).wf = true) : 0 ≤ n ∧ n ≤ 4294967295 := by
  simpa [Lit.wf, IntKind.min, IntKind.max, IntKind.signed, IntKind.bits] using h
theorem c_up {k : Nat} (h : 0 < k) : ∃ m, k = m + 1 := ⟨k - 1, by omega⟩

/-! ### ints -/
theorem c_rd {l : List Int} {i : Nat} (h : i < l.length) : rd l (i : Int) = l[i]'h := by
  unfold rd
  simp [h]
theorem c_rd_app (pre : List Int) (a : Int) (l : List Int) : rd (pre ++ a :: l) (pre.length : Int) = a := by
  unfold rd
  simp
theorem c_inc {i n : Nat} (h : i < n) (hn : n ≤ 9223372036854775807) : wrap64 ((i : Int) + 1) = ((i + 1 : Nat) : Int) := by rw [c_wrap (by omega) (by omega)]; omega

/-! ### draw -/
structure CSt (l : List Int) (i : Int) : Prop where
  lo : 0 ≤ i
  hi : i ≤ l.length
  sz : l.length ≤ 4611686018427387904
theorem c_and_le (x : Int) : 0 ≤ Go.bits .and .i64 x 255 ∧ Go.bits .and .i64 x 255 ≤ 255 := by
  have h : (BitVec.ofInt 64 x &&& BitVec.ofInt 64 255).toNat ≤ 255 := by
    rw [BitVec.toNat_and]
    exact Nat.le_trans Nat.and_le_right (by decide)
  have e : Go.bits .and .i64 x 255 = IntKind.i64.wrap ((BitVec.ofInt 64 x &&& BitVec.ofInt 64 255).toNat : Int) := rfl
  rw [e, IntKind.wrap_i64]
  omega
theorem c_new (l : List Int) (hl : l.length ≤ 4611686018427387904) (d : Nat) : ∀ (h : Int) (i : Nat), 4000 - i = d → i ≤ l.length → ∃ h', ∀ k, d < k → spec_l01New.l0 k l h i = some (l, 0, h') := by
  induction d with
  | zero =>
    intro h i hd hi
    refine ⟨h, fun k hk => ?_⟩
    obtain ⟨k, rfl⟩ := c_up (k := k) (by omega)
    rw [spec_l01New.l0]
    by_cases h1 : (i : Int) < (l.length : Int)
    · rw [if_pos h1, if_neg (by omega)]
    · rw [if_neg h1]
  | succ d ih =>
    intro h i hd hi
    by_cases h1 : i < l.length
    · obtain ⟨h', hh⟩ := ih (Go.bits .and .i64 (wrap64 ((wrap64 ((wrap64 (h * 131)) + (wrap64 (rd l i)))) + 7)) 1073741823) (i + 1) (by omega) (by omega)
      refine ⟨h', fun k hk => ?_⟩
      obtain ⟨k, rfl⟩ := c_up (k := k) (by omega)
      rw [spec_l01New.l0, if_pos (by omega), if_pos (by omega), if_pos (by omega), c_inc (n := l.length) (by omega) (by omega)]
      exact hh k (by omega)
    · refine ⟨h, fun k hk => ?_⟩
      obtain ⟨k, rfl⟩ := c_up (k := k) (by omega)
      rw [spec_l01New.l0, if_neg (by omega)]
theorem c_l01New (l : List Int) (hl : l.length ≤ 4611686018427387904) : ∃ h, ∀ k, 4000 < k → spec_l01New.f k l = some (l, 0, h) := by
  obtain ⟨h, hh⟩ := c_new l hl 4000 (wrap64 (37101 + (l.length : Int))) 0 rfl (by omega)
  exact ⟨h, fun k hk => by unfold spec_l01New.f; exact hh k hk⟩
theorem c_byte {l : List Int} {i : Int} (h : Int) (s : CSt l i) : ∃ x i' h', spec_l01Byte.f l i h = some (x, i', h') ∧ 0 ≤ x ∧ x ≤ 255 ∧ CSt l i' := by
  unfold spec_l01Byte.f
  have hlo := s.lo
  have hhi := s.hi
  have hsz := s.sz
  by_cases h1 : i < (l.length : Int)
  · rw [if_pos h1, if_pos hlo]
    refine ⟨_, _, _, rfl, (c_and_le _).1, (c_and_le _).2, ?_⟩
    rw [c_wrap (n := i + 1) (by omega) (by omega)]
    exact ⟨by omega, by omega, hsz⟩
  · rw [if_neg h1]
    exact ⟨_, _, _, rfl, (c_and_le _).1, (c_and_le _).2, s⟩
theorem c_below {l : List Int} {i : Int} (h : Int) (s : CSt l i) (n : Int) : ∃ x i' h', spec_l01Below.f l i h n = some (x, i', h') ∧ 0 ≤ x ∧ (0 < n → x < n) ∧ (n ≤ 0 → x = 0) ∧ CSt l i' := by
  unfold spec_l01Below.f
  by_cases h0 : n ≤ 0
  · rw [if_pos h0]
    exact ⟨_, _, _, rfl, by omega, by omega, fun _ => rfl, s⟩
  · rw [if_neg h0]
    by_cases h1 : n ≤ 256
    · obtain ⟨x, i', h', e, hx0, hx1, s'⟩ := c_byte h s
      rw [if_pos h1, e]
      simp only [Option.bind_some]
      rw [if_neg (by omega), Int.tmod_eq_emod_of_nonneg hx0]
      exact ⟨_, _, _, rfl, Int.emod_nonneg _ (by omega), fun _ => Int.emod_lt_of_pos _ (by omega), by omega, s'⟩
    · obtain ⟨x, i1, h1', e1, hx0, hx1, s1⟩ := c_byte h s
      obtain ⟨y, i2, h2', e2, hy0, hy1, s2⟩ := c_byte h1' s1
      obtain ⟨z, i3, h3', e3, hz0, hz1, s3⟩ := c_byte h2' s2
      obtain ⟨w, i4, h4', e4, hw0, hw1, s4⟩ := c_byte h3' s3
      rw [if_neg h1, e1]
      simp only [Option.bind_some]
      rw [e2]
      simp only [Option.bind_some]
      rw [e3]
      simp only [Option.bind_some]
      rw [e4]
      simp only [Option.bind_some]
      rw [if_neg (by omega), c_wrap (n := x * 16777216) (by omega) (by omega), c_wrap (n := y * 65536) (by omega) (by omega), c_wrap (n := z * 256) (by omega) (by omega), c_wrap (n := x * 16777216 + y * 65536) (by omega) (by omega), c_wrap (n := x * 16777216 + y * 65536 + z * 256) (by omega) (by omega), c_wrap (by omega) (by omega), Int.tmod_eq_emod_of_nonneg (by omega)]
      exact ⟨_, _, _, rfl, Int.emod_nonneg _ (by omega), fun _ => Int.emod_lt_of_pos _ (by omega), by omega, s4⟩
theorem c_pick {l : List Int} {i : Int} (h : Int) (s : CSt l i) (xs : List Int) (hx : 0 < xs.length) : ∃ x i' h', spec_l01PickInt.f l i h xs = some (x, i', h') ∧ x ∈ xs ∧ CSt l i' := by
  unfold spec_l01PickInt.f
  obtain ⟨x, i', h', e, hx0, hx1, _, s'⟩ := c_below h s (xs.length : Int)
  rw [e]
  simp only [Option.bind_some]
  rw [if_pos hx0, if_pos (hx1 (by omega))]
  refine ⟨_, _, _, rfl, ?_, s'⟩
  obtain ⟨j, rfl⟩ := Int.eq_ofNat_of_zero_le hx0
  have := hx1 (by omega)
  rw [c_rd (by omega)]
  exact List.getElem_mem _

/-! ### once -/
theorem c_once {l : List Int} {i : Int} (h : Int) (s : CSt l i) (n : Int) : ∃ b i' h', spec_l01Once.f l i h n = some (b, i', h') ∧ CSt l i' := by
  obtain ⟨x, i1, h1, e1, _, _, _, s1⟩ := c_below h s n
  unfold spec_l01Once.f
  rw [e1]
  exact ⟨_, _, _, rfl, s1⟩

/-! ### lists -/
theorem c_inc' {i n : Nat} (h : i < n) (hn : n ≤ 9223372036854775807) : wrap64 ((i : Int) + 1) = ((i + 1 : Nat) : Int) := by rw [c_wrap (by omega) (by omega)]; omega

/-! ### within -/
def c_in (n l h : Int) : Bool := decide (l ≤ n) && decide (n ≤ h)
theorem c_in_iff {n l h : Int} : c_in n l h = true ↔ l ≤ n ∧ n ≤ h := by simp [c_in]
theorem c_in_no {n l h : Int} : ¬ c_in n l h = true ↔ n < l ∨ h < n := by rw [c_in_iff]; omega

/-! ### instr -/
theorem c_rdI {l : List S64} {i : Nat} (h : i < l.length) : rd_T64 l (i : Int) = l[i]'h := by
  unfold rd_T64
  simp [h]
def c_okI (x : S64) : Bool := c_in x.f0 0 255 && c_in x.f1 0 255
def c_codeOk (l : List S64) : Bool := l.all c_okI && decide (l.length ≤ 60)

/-! ### within_s -/
theorem c_l01In (n l h : Int) : spec_l01In.f n l h = some (c_in n l h) := by
  unfold spec_l01In.f c_in
  by_cases h0 : n ≥ l
  · rw [if_pos h0]; simp [h0]
  · rw [if_neg h0]; simp; omega

/-! ### within_i -/
theorem c_within (n l h : Int) : impl_within.f n l h = some (c_in n l h) := by
  unfold impl_within.f c_in
  by_cases h0 : n ≥ l
  · rw [if_pos h0]; simp [h0]
  · rw [if_neg h0]; simp; omega

/-! ### codeok -/
theorem c_codeOk_spec (l : List S64) (hl : l.length ≤ 1048576) (d : Nat) : ∀ (k i : Nat), l.length - i = d → i ≤ l.length → d < k → spec_CodeOk.l0 k l i = some ((l.drop i).all c_okI && decide (l.length ≤ 60)) := by
  induction d with
  | zero =>
    intro k i hd hi hk
    obtain ⟨k, rfl⟩ := c_up (k := k) (by omega)
    rw [spec_CodeOk.l0, if_neg (by omega), List.drop_eq_nil_of_le (by omega)]
    simp
    omega
  | succ d ih =>
    intro k i hd hi hk
    obtain ⟨k, rfl⟩ := c_up (k := k) (by omega)
    have hd' : l.drop i = l[i]'(by omega) :: l.drop (i + 1) := List.drop_eq_getElem_cons (by omega)
    rw [spec_CodeOk.l0, if_pos (by omega), if_pos (by omega), c_rdI (by omega), c_l01In, c_l01In, c_inc' (n := l.length) (by omega) (by omega), ih k (i + 1) (by omega) (by omega) (by omega), hd', List.all_cons]
    simp only [Option.bind_some, c_okI]
    cases c_in (l[i]'(by omega)).f0 0 255 <;> cases c_in (l[i]'(by omega)).f1 0 255 <;> simp
theorem c_codeOk_impl (l : List S64) (hl : l.length ≤ 1048576) (d : Nat) : ∀ (k i : Nat), l.length - i = d → i ≤ l.length → d < k → impl_CodeOk.l0 k l l (l.length : Int) i = some ((l.drop i).all c_okI && decide (l.length ≤ 60)) := by
  induction d with
  | zero =>
    intro k i hd hi hk
    obtain ⟨k, rfl⟩ := c_up (k := k) (by omega)
    rw [impl_CodeOk.l0, if_neg (by omega), List.drop_eq_nil_of_le (by omega)]
    simp
    omega
  | succ d ih =>
    intro k i hd hi hk
    obtain ⟨k, rfl⟩ := c_up (k := k) (by omega)
    have hd' : l.drop i = l[i]'(by omega) :: l.drop (i + 1) := List.drop_eq_getElem_cons (by omega)
    rw [impl_CodeOk.l0, if_pos (by omega), if_pos (by omega), if_pos (by omega), c_rdI (by omega), c_within, c_within, c_inc' (n := l.length) (by omega) (by omega), ih k (i + 1) (by omega) (by omega) (by omega), hd', List.all_cons]
    simp only [Option.bind_some, c_okI]
    cases c_in (l[i]'(by omega)).f0 0 255 <;> cases c_in (l[i]'(by omega)).f1 0 255 <;> simp
theorem c_CodeOk_spec (l : List S64) (hl : l.length ≤ 1048576) (k : Nat) (hk : l.length < k) : spec_CodeOk.f k l = some (c_codeOk l) := by
  have := c_codeOk_spec l hl l.length k 0 (by omega) (by omega) hk
  simpa [spec_CodeOk.f, c_codeOk] using this
theorem c_CodeOk_impl (l : List S64) (hl : l.length ≤ 1048576) (k : Nat) (hk : l.length < k) : impl_CodeOk.f k l = some (c_codeOk l) := by
  have := c_codeOk_impl l hl l.length k 0 (by omega) (by omega) hk
  simpa [impl_CodeOk.f, c_codeOk] using this

/-! ### codetext -/
def c_text (l : List S64) : List Int := l.flatMap fun x => [x.f0 % 256, x.f1 % 256]
theorem c_text_cons (x : S64) (l : List S64) : c_text (x :: l) = [x.f0 % 256, x.f1 % 256] ++ c_text l := rfl
def c_codeText (l : List S64) : ByteArray × Bool := if c_codeOk l = true then (strOfNums (c_text l), true) else ((⟨#[]⟩ : ByteArray), false)
theorem c_codeText_impl (l : List S64) (hl : l.length ≤ 1048576) (d : Nat) : ∀ (k i : Nat) (acc : List Int), l.length - i = d → i ≤ l.length → d < k → acc.length + 2 * d < 140737488355328 → impl_CodeText.l0 k acc l (l.length : Int) i = some (strOfNums (acc ++ c_text (l.drop i)), true) := by
  induction d with
  | zero =>
    intro k i acc hd hi hk hb
    obtain ⟨k, rfl⟩ := c_up (k := k) (by omega)
    rw [impl_CodeText.l0, if_neg (by omega), List.drop_eq_nil_of_le (by omega)]
    simp [c_text]
  | succ d ih =>
    intro k i acc hd hi hk hb
    obtain ⟨k, rfl⟩ := c_up (k := k) (by omega)
    have hd' : l.drop i = l[i]'(by omega) :: l.drop (i + 1) := List.drop_eq_getElem_cons (by omega)
    rw [impl_CodeText.l0, if_pos (by omega), if_pos (by omega), if_pos (by omega), c_rdI (by omega)]
    simp only [Option.bind_some, List.length_cons, List.length_nil]
    rw [if_pos (by omega), c_inc' (n := l.length) (by omega) (by omega), ih k (i + 1) _ (by omega) (by omega) (by omega) (by simp; omega), hd', c_text_cons, List.append_assoc]
theorem c_CodeText_impl (l : List S64) (hl : l.length ≤ 1048576) (k : Nat) (hk : l.length < k) : impl_CodeText.f k l = some (c_codeText l) := by
  unfold impl_CodeText.f c_codeText
  rw [c_CodeOk_impl l hl k hk]
  simp only [Option.bind_some]
  by_cases h : c_codeOk l = true
  · rw [if_pos h, if_pos h]
    have := c_codeText_impl l hl l.length k 0 [] (by omega) (by omega) hk (by simp; omega)
    simpa using this
  · rw [if_neg h, if_neg h]
theorem c_codeText_spec (l : List S64) (hl : l.length ≤ 1048576) (d : Nat) : ∀ (k i : Nat) (acc : List Int), l.length - i = d → i ≤ l.length → d < k → acc.length + 2 * d < 140737488355328 → spec_CodeText.l0 k l acc i = some (strOfNums (acc ++ c_text (l.drop i)), true) := by
  induction d with
  | zero =>
    intro k i acc hd hi hk hb
    obtain ⟨k, rfl⟩ := c_up (k := k) (by omega)
    rw [spec_CodeText.l0, if_neg (by omega), List.drop_eq_nil_of_le (by omega)]
    simp [c_text]
  | succ d ih =>
    intro k i acc hd hi hk hb
    obtain ⟨k, rfl⟩ := c_up (k := k) (by omega)
    have hd' : l.drop i = l[i]'(by omega) :: l.drop (i + 1) := List.drop_eq_getElem_cons (by omega)
    rw [spec_CodeText.l0, if_pos (by omega), if_pos (by omega), c_rdI (by omega)]
    simp only [Option.bind_some, List.length_cons, List.length_nil]
    rw [if_pos (by omega), c_inc' (n := l.length) (by omega) (by omega), ih k (i + 1) _ (by omega) (by omega) (by omega) (by simp; omega), hd', c_text_cons, List.append_assoc]
theorem c_CodeText_spec (l : List S64) (hl : l.length ≤ 1048576) (k : Nat) (hk : l.length < k) : spec_CodeText.f k l = some (c_codeText l) := by
  unfold spec_CodeText.f c_codeText
  rw [c_CodeOk_spec l hl k hk]
  simp only [Option.bind_some]
  by_cases h : c_codeOk l = true
  · rw [if_pos h, if_pos h]
    have := c_codeText_spec l hl l.length k 0 [] (by omega) (by omega) hk (by simp; omega)
    simpa using this
  · rw [if_neg h, if_neg h]

/-! ### drop -/
theorem c_bt (s : ByteArray) (i : Nat) (h : i < s.size) : bt s (i : Int) = ((s[i]'h).toNat : Int) := by
  unfold bt
  simp [h]
theorem c_drop (s : ByteArray) (i : Nat) (h : i < s.size) : ∃ b : UInt8, bt s (i : Int) = (b.toNat : Int) ∧ s.data.toList.drop i = b :: s.data.toList.drop (i + 1) := by
  refine ⟨s[i]'h, c_bt s i h, ?_⟩
  rw [List.drop_eq_getElem_cons (by rw [data_length]; exact h)]
  rfl
theorem c_drop_end (s : ByteArray) (i : Nat) (h : s.size ≤ i) : s.data.toList.drop i = [] := List.drop_eq_nil_of_le (by rw [data_length]; exact h)

/-! ### bytes -/
theorem c_toList (s : ByteArray) : s.toList = s.data.toList := ByteArray.toList_eq s
theorem c_extract (s : ByteArray) (a b : Nat) : (s.extract a b).data.toList = (s.data.toList.take b).drop a := by
  simp [ByteArray.data_extract, Array.toList_extract, List.extract_eq_take_drop, List.drop_take]
theorem c_ext {s t : ByteArray} (h : s.data.toList = t.data.toList) : s = t := by
  cases s; cases t; congr; exact Array.toList_inj.1 h

/-! ### codedraw -/
theorem c_i2 {l : List Int} {i : Int} (h : Int) (s : CSt l i) (a b : Int) : ∃ a' b' i' h', CSt l i' ∧ ∀ k, 0 < k → spec_l05Instr.j2 k l i h a b = some (a', b', i', h') := by
  obtain ⟨f, i1, h1, e1, s1⟩ := c_once h s 40
  by_cases hf : f = true
  · obtain ⟨x, i2, h2, e2, _, _, _, s2⟩ := c_below h1 s1 256
    refine ⟨x, b, i2, h2, s2, fun k hk => ?_⟩
    obtain ⟨k, rfl⟩ := c_up hk
    rw [spec_l05Instr.j2, e1]
    simp only [Option.bind_some]
    rw [if_pos hf, e2]
    rfl
  · refine ⟨a, b, i1, h1, s1, fun k hk => ?_⟩
    obtain ⟨k, rfl⟩ := c_up hk
    rw [spec_l05Instr.j2, e1]
    simp only [Option.bind_some]
    rw [if_neg hf]
theorem c_i1 (f : Bool) {l : List Int} {i : Int} (h : Int) (s : CSt l i) (a b : Int) : ∃ a' b' i' h', CSt l i' ∧ ∀ k, 1 < k → spec_l05Instr.j1 k f l i h a b = some (a', b', i', h') := by
  by_cases hf : f = true
  · obtain ⟨x, i1, h1, e1, _, _, _, s1⟩ := c_below h s 14
    obtain ⟨a', b', i', h', s', q⟩ := c_i2 h1 s1 a x
    refine ⟨a', b', i', h', s', fun k hk => ?_⟩
    obtain ⟨k, rfl⟩ := c_up (k := k) (by omega)
    rw [spec_l05Instr.j1, if_pos hf, e1]
    simp only [Option.bind_some]
    exact q k (by omega)
  · obtain ⟨a', b', i', h', s', q⟩ := c_i2 h s a b
    refine ⟨a', b', i', h', s', fun k hk => ?_⟩
    obtain ⟨k, rfl⟩ := c_up (k := k) (by omega)
    rw [spec_l05Instr.j1, if_neg hf]
    exact q k (by omega)
theorem c_i0 {l : List Int} {i : Int} (h : Int) (s : CSt l i) (a b : Int) : ∃ a' b' i' h', CSt l i' ∧ ∀ k, 2 < k → spec_l05Instr.j0 k l i h a b = some (a', b', i', h') := by
  by_cases hf : a = 9
  · obtain ⟨a', b', i', h', s', q⟩ := c_i1 true h s a b
    refine ⟨a', b', i', h', s', fun k hk => ?_⟩
    obtain ⟨k, rfl⟩ := c_up (k := k) (by omega)
    rw [spec_l05Instr.j0, if_pos hf]
    exact q k (by omega)
  · obtain ⟨a', b', i', h', s', q⟩ := c_i1 (a == 10) h s a b
    refine ⟨a', b', i', h', s', fun k hk => ?_⟩
    obtain ⟨k, rfl⟩ := c_up (k := k) (by omega)
    rw [spec_l05Instr.j0, if_neg hf]
    exact q k (by omega)
theorem c_l05Instr {l : List Int} {i : Int} (h : Int) (s : CSt l i) : ∃ a b i' h', CSt l i' ∧ ∀ k, 2 < k → spec_l05Instr.f k l i h = some (a, b, i', h') := by
  obtain ⟨x, i1, h1, e1, _, s1⟩ := c_pick h s [0, 1, 1, 1, 1, 1, 2, 3, 3, 4, 5, 6, 7, 8, 9, 10, 11, 12, 13, 14, 15, 16, 17] (by simp)
  obtain ⟨y, i2, h2, e2, _, _, _, s2⟩ := c_below h1 s1 4
  by_cases hx : x = 1
  · obtain ⟨z, i3, h3, e3, _, _, _, s3⟩ := c_below h2 s2 8
    obtain ⟨a', b', i', h', s', q⟩ := c_i0 h3 s3 x z
    refine ⟨a', b', i', h', s', fun k hk => ?_⟩
    unfold spec_l05Instr.f
    rw [e1]
    simp only [Option.bind_some]
    rw [e2]
    simp only [Option.bind_some]
    rw [if_pos hx, e3]
    simp only [Option.bind_some]
    exact q k hk
  · obtain ⟨a', b', i', h', s', q⟩ := c_i0 h2 s2 x y
    refine ⟨a', b', i', h', s', fun k hk => ?_⟩
    unfold spec_l05Instr.f
    rw [e1]
    simp only [Option.bind_some]
    rw [e2]
    simp only [Option.bind_some]
    rw [if_neg hx]
    exact q k hk
theorem c_l05Code_end {l : List Int} {i : Int} (h : Int) (s : CSt l i) (acc : List S64) (ha : acc.length ≤ 45) : ∃ (r : List S64) (i' h' : Int), r.length ≤ 46 ∧ CSt l i' ∧ (spec_l01Once.f l i h 2).bind (fun bt156 => (if bt156.1 = true then (if acc.length < 8796093022208 then (some ((acc ++ [(⟨0, 0⟩ : S64)]), bt156.2.1, bt156.2.2)) else (none)) else (some (acc, bt156.2.1, bt156.2.2)))) = some (r, i', h') := by
  obtain ⟨f, i1, h1, e1, s1⟩ := c_once h s 2
  rw [e1]
  simp only [Option.bind_some]
  by_cases hf : f = true
  · rw [if_pos hf, if_pos (by omega)]
    exact ⟨_, _, _, by rw [List.length_append, List.length_singleton]; omega, s1, rfl⟩
  · rw [if_neg hf]
    exact ⟨_, _, _, by omega, s1, rfl⟩
theorem c_l05Code_l {l : List Int} (d : Nat) : ∀ (acc : List S64) (j : Nat) (i h : Int), 15 - j = d → j ≤ 15 → acc.length ≤ 3 * j → CSt l i → ∃ (r : List S64) (i' h' : Int), r.length ≤ 46 ∧ CSt l i' ∧ ∀ k, d + 3 < k → spec_l05Code.l0 k acc j l i h = some (r, i', h') := by
  induction d with
  | zero =>
    intro acc j i h hd hj ha s
    obtain ⟨x, i1, h1, e1, _, x1, _, s1⟩ := c_below h s 16
    have x2 := x1 (by omega)
    obtain ⟨r, i', h', q1, q2, q3⟩ := c_l05Code_end h1 s1 acc (by omega)
    refine ⟨r, i', h', q1, q2, fun k hk => ?_⟩
    obtain ⟨k, rfl⟩ := c_up (k := k) (by omega)
    rw [spec_l05Code.l0, e1]
    simp only [Option.bind_some]
    rw [if_neg (by omega)]
    exact q3
  | succ d ih =>
    intro acc j i h hd hj ha s
    obtain ⟨x, i1, h1, e1, _, x1, _, s1⟩ := c_below h s 16
    have hw := Aside0.mk (c_inc' (i := j) (n := 15) (by omega) (by omega))
    by_cases hin : (j : Int) < x
    · obtain ⟨m, i2, h2, e2, _, _, _, s2⟩ := c_below h1 s1 6
      by_cases m0 : m = 0
      · obtain ⟨y, i3, h3, e3, _, _, _, s3⟩ := c_below h2 s2 5
        obtain ⟨z, i4, h4, e4, _, _, _, s4⟩ := c_below h3 s3 9
        obtain ⟨r, i', h', q1, q2, q3⟩ := ih (acc ++ [⟨1, y⟩, ⟨1, z⟩, ⟨3, 0⟩]) (j + 1) i4 h4 (by omega) (by omega) (by simp; omega) s4
        refine ⟨r, i', h', q1, q2, fun k hk => ?_⟩
        obtain ⟨k, rfl⟩ := c_up (k := k) (by omega)
        rw [spec_l05Code.l0, e1]
        simp only [Option.bind_some]
        rw [if_pos hin, e2]
        simp only [Option.bind_some]
        rw [if_pos m0, e3]
        simp only [Option.bind_some]
        rw [e4]
        simp only [Option.bind_some]
        rw [if_pos (by simp; omega), hw.out]
        exact q3 k (by omega)
      · by_cases m1 : m = 1
        · obtain ⟨y, i3, h3, e3, _, _, _, s3⟩ := c_below h2 s2 5
          obtain ⟨z, i4, h4, e4, _, _, _, s4⟩ := c_below h3 s3 2
          obtain ⟨r, i', h', q1, q2, q3⟩ := ih (acc ++ [⟨1, y⟩, ⟨2, 0⟩, ⟨16, z⟩]) (j + 1) i4 h4 (by omega) (by omega) (by simp; omega) s4
          refine ⟨r, i', h', q1, q2, fun k hk => ?_⟩
          obtain ⟨k, rfl⟩ := c_up (k := k) (by omega)
          rw [spec_l05Code.l0, e1]
          simp only [Option.bind_some]
          rw [if_pos hin, e2]
          simp only [Option.bind_some]
          rw [if_neg m0, if_pos m1, e3]
          simp only [Option.bind_some]
          rw [e4]
          simp only [Option.bind_some]
          rw [if_pos (by simp; omega), hw.out]
          exact q3 k (by omega)
        · by_cases m2 : m = 2
          · obtain ⟨y, i3, h3, e3, _, _, _, s3⟩ := c_below h2 s2 3
            obtain ⟨z, i4, h4, e4, _, _, _, s4⟩ := c_below h3 s3 3
            obtain ⟨r, i', h', q1, q2, q3⟩ := ih (acc ++ [⟨15, y⟩, ⟨13, z⟩, ⟨12, 0⟩]) (j + 1) i4 h4 (by omega) (by omega) (by simp; omega) s4
            refine ⟨r, i', h', q1, q2, fun k hk => ?_⟩
            obtain ⟨k, rfl⟩ := c_up (k := k) (by omega)
            rw [spec_l05Code.l0, e1]
            simp only [Option.bind_some]
            rw [if_pos hin, e2]
            simp only [Option.bind_some]
            rw [if_neg m0, if_neg m1, if_pos m2, e3]
            simp only [Option.bind_some]
            rw [e4]
            simp only [Option.bind_some]
            rw [if_pos (by simp; omega), hw.out]
            exact q3 k (by omega)
          · obtain ⟨a, b, i3, h3, s3, e3⟩ := c_l05Instr h2 s2
            obtain ⟨r, i', h', q1, q2, q3⟩ := ih (acc ++ [⟨a, b⟩]) (j + 1) i3 h3 (by omega) (by omega) (by simp; omega) s3
            refine ⟨r, i', h', q1, q2, fun k hk => ?_⟩
            obtain ⟨k, rfl⟩ := c_up (k := k) (by omega)
            rw [spec_l05Code.l0, e1]
            simp only [Option.bind_some]
            rw [if_pos hin, e2]
            simp only [Option.bind_some]
            rw [if_neg m0, if_neg m1, if_neg m2, e3 k (by omega)]
            simp only [Option.bind_some]
            rw [if_pos (by omega), hw.out]
            exact q3 k (by omega)
    · obtain ⟨r, i', h', q1, q2, q3⟩ := c_l05Code_end h1 s1 acc (by omega)
      refine ⟨r, i', h', q1, q2, fun k hk => ?_⟩
      obtain ⟨k, rfl⟩ := c_up (k := k) (by omega)
      rw [spec_l05Code.l0, e1]
      simp only [Option.bind_some]
      rw [if_neg hin]
      exact q3
theorem c_l05Code {l : List Int} {i : Int} (h : Int) (s : CSt l i) : ∃ (r : List S64) (i' h' : Int), r.length ≤ 46 ∧ CSt l i' ∧ ∀ k, 18 < k → spec_l05Code.f k l i h = some (r, i', h') := by
  obtain ⟨r, i', h', q1, q2, q3⟩ := c_l05Code_l (l := l) 15 [] 0 i h rfl (by omega) (by simp) s
  exact ⟨r, i', h', q1, q2, fun k hk => by unfold spec_l05Code.f; exact q3 k (by omega)⟩
theorem c_l05Any_l {l : List Int} (d : Nat) : ∀ (acc : List S64) (i h : Int), 61 - acc.length = d → acc.length ≤ 61 → CSt l i → ∃ (r : List S64) (i' h' : Int), r.length ≤ 61 ∧ CSt l i' ∧ ∀ k, d < k → spec_l05Any.l0 k acc l i h = some (r, i', h') := by
  induction d with
  | zero =>
    intro acc i h hd ha s
    obtain ⟨x, i1, h1, e1, x0, x1, _, s1⟩ := c_below h s 2
    have x2 := x1 (by omega)
    refine ⟨acc, i1, h1, ha, s1, fun k hk => ?_⟩
    obtain ⟨k, rfl⟩ := c_up (k := k) (by omega)
    rw [spec_l05Any.l0, e1]
    simp only [Option.bind_some]
    rw [c_wrap (by omega) (by omega), if_neg (by omega)]
  | succ d ih =>
    intro acc i h hd ha s
    obtain ⟨x, i1, h1, e1, x0, x1, _, s1⟩ := c_below h s 2
    have x2 := x1 (by omega)
    by_cases hin : (acc.length : Int) < 60 + x
    · obtain ⟨r, i', h', q1, q2, q3⟩ := ih (acc ++ [⟨17, 0⟩]) i1 h1 (by rw [List.length_append, List.length_singleton]; omega) (by rw [List.length_append, List.length_singleton]; omega) s1
      refine ⟨r, i', h', q1, q2, fun k hk => ?_⟩
      obtain ⟨k, rfl⟩ := c_up (k := k) (by omega)
      rw [spec_l05Any.l0, e1]
      simp only [Option.bind_some]
      rw [c_wrap (n := 60 + x) (by omega) (by omega), if_pos hin, if_pos (by omega)]
      exact q3 k (by omega)
    · refine ⟨acc, i1, h1, ha, s1, fun k hk => ?_⟩
      obtain ⟨k, rfl⟩ := c_up (k := k) (by omega)
      rw [spec_l05Any.l0, e1]
      simp only [Option.bind_some]
      rw [c_wrap (n := 60 + x) (by omega) (by omega), if_neg hin]
theorem c_l05Any {l : List Int} {i : Int} (h : Int) (s : CSt l i) : ∃ (r : List S64) (i' h' : Int), r.length ≤ 61 ∧ CSt l i' ∧ ∀ k, 61 < k → spec_l05Any.f k l i h = some (r, i', h') := by
  obtain ⟨r, i1, h1, q1, s1, q3⟩ := c_l05Code h s
  obtain ⟨m, i2, h2, e2, _, _, _, s2⟩ := c_below h1 s1 12
  have head : ∀ k, 61 < k → spec_l05Any.f k l i h = (if m = 0 then ((spec_l01PickInt.f l i2 h2 (([(-1), 255, 256] : List Int))).bind fun bt225 => (some ((r ++ [(⟨bt225.1, 1⟩ : S64)]), bt225.2.1, bt225.2.2))) else (if m = 1 then ((spec_l01PickInt.f l i2 h2 (([(-1), 255, 256] : List Int))).bind fun bt234 => (some ((r ++ [(⟨1, bt234.1⟩ : S64)]), bt234.2.1, bt234.2.2))) else (if m = 2 then (spec_l05Any.l0 k r l i2 h2) else (some (r, i2, h2))))) := by
    intro k hk
    have t1 : ([] : List S64).length + r.length < 8796093022208 := by rw [List.length_nil]; omega
    have t2 : r.length < 8796093022208 := by omega
    unfold spec_l05Any.f
    simp only [Option.bind_some]
    rw [q3 k (by omega)]
    simp only [Option.bind_some]
    rw [if_pos t1, List.nil_append, e2]
    simp only [Option.bind_some, if_pos t2]
  by_cases c0 : m = 0
  · obtain ⟨x, i3, h3, e3, _, s3⟩ := c_pick h2 s2 [(-1), 255, 256] (by simp)
    refine ⟨r ++ [⟨x, 1⟩], i3, h3, by rw [List.length_append, List.length_singleton]; omega, s3, fun k hk => ?_⟩
    rw [head k hk, if_pos c0, e3]
    rfl
  · by_cases c1 : m = 1
    · obtain ⟨x, i3, h3, e3, _, s3⟩ := c_pick h2 s2 [(-1), 255, 256] (by simp)
      refine ⟨r ++ [⟨1, x⟩], i3, h3, by rw [List.length_append, List.length_singleton]; omega, s3, fun k hk => ?_⟩
      rw [head k hk, if_neg c0, if_pos c1, e3]
      rfl
    · by_cases c2 : m = 2
      · obtain ⟨r', i3, h3, p1, p2, p3⟩ := c_l05Any_l (l := l) (61 - r.length) r i2 h2 rfl (by omega) s2
        refine ⟨r', i3, h3, p1, p2, fun k hk => ?_⟩
        rw [head k hk, if_neg c0, if_neg c1, if_pos c2]
        exact p3 k (by omega)
      · exact ⟨r, i2, h2, by omega, s2, fun k hk => by rw [head k hk, if_neg c0, if_neg c1, if_neg c2]⟩
theorem c_DrawCodeText (l : List Int) (hl : l.length ≤ 4611686018427387904) : ∃ (r : List S64), r.length ≤ 61 ∧ ∀ k, 4000 < k → spec_DrawCodeText.f k l = some r := by
  obtain ⟨h, hh⟩ := c_l01New l hl
  obtain ⟨r, i', h', q1, q2, q3⟩ := c_l05Any (l := l) (i := 0) h ⟨by omega, by omega, hl⟩
  refine ⟨r, q1, fun k hk => ?_⟩
  unfold spec_DrawCodeText.f
  rw [hh k hk]
  simp only [Option.bind_some]
  rw [q3 k (by omega)]
  rfl
theorem c_text1 {l : List Int} {i : Int} (h : Int) (s : CSt l i) : ∃ (t : ByteArray) (i' h' : Int), t.size = 1 ∧ CSt l i' ∧ ∀ k, 3 < k → spec_l01Text.f k l i h 1 = some (t, i', h') := by
  obtain ⟨x, i1, h1, e1, _, _, s1⟩ := c_byte h s
  refine ⟨strOfNums [x % 256], i1, h1, by rw [strOfNums_size]; rfl, s1, fun k hk => ?_⟩
  obtain ⟨k, rfl⟩ : ∃ m, k = m + 3 := ⟨k - 3, by omega⟩
  unfold spec_l01Text.f
  rw [if_neg (by omega), spec_l01Text.j0, spec_l01Text.l0, if_pos (by omega), e1]
  simp only [Option.bind_some]
  rw [if_pos (by simp), c_wrap (n := 0 + 1) (by omega) (by omega), spec_l01Text.l0, if_neg (by omega)]
  rfl
theorem c_spoilt0 (f : Bool) {l : List Int} {i : Int} (h : Int) (s : CSt l i) (t : ByteArray) (ht : t.size ≤ 1000) : ∃ (u : ByteArray) (i' h' : Int), ∀ k, 4 < k → spec_l02Spoilt.j0 k t f l i h = some (u, i', h') := by
  by_cases hf : f = true
  · by_cases h0 : (t.size : Int) > 0
    · obtain ⟨y, i1, h1, e1, y0, y1, _, s1⟩ := c_below h s (t.size : Int)
      have y2 := y1 (by omega)
      obtain ⟨u, i2, h2, hu, s2, e2⟩ := c_text1 h1 s1
      refine ⟨(t.extract 0 y.toNat ++ u) ++ t.extract (y + 1).toNat t.size, i2, h2, fun k hk => ?_⟩
      obtain ⟨k, rfl⟩ := c_up (k := k) (by omega)
      have z1 : (t.extract 0 y.toNat).size ≤ 1000 := by rw [ByteArray.size_extract]; omega
      have z2 : (t.extract (y + 1).toNat t.size).size ≤ 1000 := by rw [ByteArray.size_extract]; omega
      rw [spec_l02Spoilt.j0, if_pos hf, if_pos h0, e1]
      simp only [Option.bind_some]
      rw [if_pos y0, if_pos (by omega), e2 k (by omega)]
      simp only [Option.bind_some]
      rw [c_wrap (n := y + 1) (by omega) (by omega), if_pos (by omega), if_pos (by omega), if_pos (by omega), if_pos (by rw [ByteArray.size_append]; omega)]
    · refine ⟨t, i, h, fun k hk => ?_⟩
      obtain ⟨k, rfl⟩ := c_up (k := k) (by omega)
      rw [spec_l02Spoilt.j0, if_pos hf, if_neg h0]
  · refine ⟨t, i, h, fun k hk => ?_⟩
    obtain ⟨k, rfl⟩ := c_up (k := k) (by omega)
    rw [spec_l02Spoilt.j0, if_neg hf]
theorem c_spoilt {l : List Int} {i : Int} (h : Int) (s : CSt l i) (t : ByteArray) (ht : t.size ≤ 1000) : ∃ (u : ByteArray) (i' h' : Int), ∀ k, 4 < k → spec_l02Spoilt.f k l i h t = some (u, i', h') := by
  obtain ⟨m, i1, h1, e1, _, _, _, s1⟩ := c_below h s 12
  by_cases c0 : m = 0
  · obtain ⟨u, i2, h2, hu, s2, e2⟩ := c_text1 h1 s1
    refine ⟨t ++ u, i2, h2, fun k hk => ?_⟩
    unfold spec_l02Spoilt.f
    rw [e1]
    simp only [Option.bind_some]
    rw [if_pos c0, e2 k (by omega)]
    simp only [Option.bind_some]
    rw [if_pos (by omega)]
  · by_cases c1 : m = 1
    · obtain ⟨y, i2, h2, e2, y0, y1, _, s2⟩ := c_below h1 s1 ((t.size : Int) + 1)
      have y2 := y1 (by omega)
      refine ⟨t.extract 0 y.toNat, i2, h2, fun k hk => ?_⟩
      unfold spec_l02Spoilt.f
      rw [e1]
      simp only [Option.bind_some]
      rw [if_neg c0, if_pos c1, c_wrap (n := (t.size : Int) + 1) (by omega) (by omega), e2]
      simp only [Option.bind_some]
      rw [if_pos (by omega), if_pos (by omega)]
    · by_cases c2 : m = 2
      · obtain ⟨u, i', h', q⟩ := c_spoilt0 (m == 2) h1 s1 t ht
        refine ⟨u, i', h', fun k hk => ?_⟩
        unfold spec_l02Spoilt.f
        rw [e1]
        simp only [Option.bind_some]
        rw [if_neg c0, if_neg c1, if_pos c2]
        exact q k hk
      · obtain ⟨u, i', h', q⟩ := c_spoilt0 (m == 3) h1 s1 t ht
        refine ⟨u, i', h', fun k hk => ?_⟩
        unfold spec_l02Spoilt.f
        rw [e1]
        simp only [Option.bind_some]
        rw [if_neg c0, if_neg c1, if_neg c2]
        exact q k hk
theorem c_text_len (l : List S64) : (c_text l).length = 2 * l.length := by
  induction l with
  | nil => rfl
  | cons x l ih =>
    rw [c_text_cons, List.length_append, List.length_cons, ih]
    simp only [List.length_cons, List.length_nil]
    omega
theorem c_codeText_size (l : List S64) : (c_codeText l).1.size ≤ 2 * l.length := by
  unfold c_codeText
  split
  · show (strOfNums (c_text l)).size ≤ _
    rw [strOfNums_size, c_text_len]
    omega
  · exact Nat.zero_le _
theorem c_DrawReadCode (l : List Int) (hl : l.length ≤ 4611686018427387904) : ∃ (t : ByteArray), ∀ k, 4000 < k → spec_DrawReadCode.f k l = some t := by
  obtain ⟨h, hh⟩ := c_l01New l hl
  obtain ⟨r, i1, h1, q1, s1, q3⟩ := c_l05Any (l := l) (i := 0) h ⟨by omega, by omega, hl⟩
  obtain ⟨f, i2, h2, e2, s2⟩ := c_once h1 s1 3
  have hz := c_codeText_size r
  by_cases hf : f = true
  · obtain ⟨u, i3, h3, e3⟩ := c_spoilt h2 s2 (c_codeText r).1 (by omega)
    refine ⟨u, fun k hk => ?_⟩
    unfold spec_DrawReadCode.f
    rw [hh k hk]
    simp only [Option.bind_some]
    rw [q3 k (by omega)]
    simp only [Option.bind_some]
    rw [c_CodeText_spec r (by omega) k (by omega)]
    simp only [Option.bind_some]
    rw [e2]
    simp only [Option.bind_some]
    rw [if_pos hf, e3 k (by omega)]
    rfl
  · refine ⟨(c_codeText r).1, fun k hk => ?_⟩
    unfold spec_DrawReadCode.f
    rw [hh k hk]
    simp only [Option.bind_some]
    rw [q3 k (by omega)]
    simp only [Option.bind_some]
    rw [c_CodeText_spec r (by omega) k (by omega)]
    simp only [Option.bind_some]
    rw [e2]
    simp only [Option.bind_some]
    rw [if_neg hf]

/-! ### readcode -/
def c_code : List UInt8 → List S64
  | a :: b :: l => ⟨(a.toNat : Int), (b.toNat : Int)⟩ :: c_code l
  | _ => []
theorem c_code_len (n : Nat) : ∀ l : List UInt8, l.length ≤ n → (c_code l).length ≤ n := by
  induction n using Nat.strongRecOn with
  | ind n ih =>
    intro l hl
    match l with
    | [] => simp [c_code]
    | [_] => simp [c_code]
    | a :: b :: l =>
      rw [c_code, List.length_cons]
      rw [List.length_cons, List.length_cons] at hl
      have := ih (n - 2) (by omega) l (by omega)
      omega
theorem c_readCode_spec (s : ByteArray) (hs : s.size ≤ 120) (hev : s.size % 2 = 0) (d : Nat) : ∀ (k i : Nat) (acc : List S64), s.size - i = 2 * d → i ≤ s.size → d < k → acc.length + d < 8796093022208 → spec_ReadCode.l0 k s acc i = some (acc ++ c_code (s.data.toList.drop i), true) := by
  induction d with
  | zero =>
    intro k i acc hd hi hk hb
    obtain ⟨k, rfl⟩ := c_up (k := k) (by omega)
    rw [spec_ReadCode.l0, if_neg (by omega), c_drop_end s i (by omega)]
    simp [c_code]
  | succ d ih =>
    intro k i acc hd hi hk hb
    obtain ⟨k, rfl⟩ := c_up (k := k) (by omega)
    obtain ⟨a, ha, hl⟩ := c_drop s i (by omega)
    obtain ⟨b, hb', hl2⟩ := c_drop s (i + 1) (by omega)
    have ha8 := a.toNat_lt
    have hb8 := b.toNat_lt
    have := ih k (i + 2) (acc ++ [⟨(a.toNat : Int), (b.toNat : Int)⟩]) (by omega) (by omega) (by omega) (by rw [List.length_append, List.length_singleton]; omega)
    rw [List.append_assoc] at this
    have q1 : (i : Int) < (s.size : Int) := by omega
    have q2 : (0 : Int) ≤ (i : Int) := by omega
    have q3 : (0 : Int) ≤ ((i + 1 : Nat) : Int) := by omega
    have q4 : ((i + 1 : Nat) : Int) < (s.size : Int) := by omega
    have q5 : acc.length < 8796093022208 := by omega
    have w1 : Aside0 (wrap64 ((i : Int) + 1) = ((i + 1 : Nat) : Int)) := ⟨by rw [c_wrap (by omega) (by omega)]; omega⟩
    have w2 : Aside0 (wrap64 ((i : Int) + 2) = ((i + 2 : Nat) : Int)) := ⟨by rw [c_wrap (by omega) (by omega)]; omega⟩
    have w3 : Aside0 (wrap64 (a.toNat : Int) = (a.toNat : Int)) := ⟨c_wrap (by omega) (by omega)⟩
    have w4 : Aside0 (wrap64 (b.toNat : Int) = (b.toNat : Int)) := ⟨c_wrap (by omega) (by omega)⟩
    rw [spec_ReadCode.l0, if_pos q1, if_pos q2, w1.out, if_pos q3, if_pos q4, if_pos q5, ha, hb', w2.out, w3.out, w4.out, this, hl, hl2]
    rfl
theorem c_readCode_impl (s : ByteArray) (hs : s.size ≤ 120) (hev : s.size % 2 = 0) (d : Nat) : ∀ (k i : Nat) (acc : List S64), s.size - i = 2 * d → i ≤ s.size → d < k → acc.length + d < 8796093022208 → impl_ReadCode.l0 k s acc i = some (acc ++ c_code (s.data.toList.drop i), true) := by
  induction d with
  | zero =>
    intro k i acc hd hi hk hb
    obtain ⟨k, rfl⟩ := c_up (k := k) (by omega)
    rw [impl_ReadCode.l0, if_neg (by omega), c_drop_end s i (by omega)]
    simp [c_code]
  | succ d ih =>
    intro k i acc hd hi hk hb
    obtain ⟨k, rfl⟩ := c_up (k := k) (by omega)
    obtain ⟨a, ha, hl⟩ := c_drop s i (by omega)
    obtain ⟨b, hb', hl2⟩ := c_drop s (i + 1) (by omega)
    have ha8 := a.toNat_lt
    have hb8 := b.toNat_lt
    have := ih k (i + 2) (acc ++ [⟨(a.toNat : Int), (b.toNat : Int)⟩]) (by omega) (by omega) (by omega) (by rw [List.length_append, List.length_singleton]; omega)
    rw [List.append_assoc] at this
    have q1 : (i : Int) < (s.size : Int) := by omega
    have q2 : (0 : Int) ≤ (i : Int) := by omega
    have q3 : (0 : Int) ≤ ((i + 1 : Nat) : Int) := by omega
    have q4 : ((i + 1 : Nat) : Int) < (s.size : Int) := by omega
    have q5 : acc.length < 8796093022208 := by omega
    have w1 : Aside0 (wrap64 ((i : Int) + 1) = ((i + 1 : Nat) : Int)) := ⟨by rw [c_wrap (by omega) (by omega)]; omega⟩
    have w2 : Aside0 (wrap64 ((i : Int) + 2) = ((i + 2 : Nat) : Int)) := ⟨by rw [c_wrap (by omega) (by omega)]; omega⟩
    have w3 : Aside0 (wrap64 (a.toNat : Int) = (a.toNat : Int)) := ⟨c_wrap (by omega) (by omega)⟩
    have w4 : Aside0 (wrap64 (b.toNat : Int) = (b.toNat : Int)) := ⟨c_wrap (by omega) (by omega)⟩
    rw [impl_ReadCode.l0, if_pos q1, if_pos q2, w1.out, if_pos q3, if_pos q4, if_pos q5, ha, hb', w2.out, w3.out, w4.out, this, hl, hl2]
    rfl
def c_readCode (s : ByteArray) : List S64 × Bool := if s.size % 2 = 0 ∧ s.size ≤ 120 then (c_code s.data.toList, true) else ([], false)
theorem c_ReadCode_spec (s : ByteArray) (k : Nat) (hk : 122 ≤ k) : spec_ReadCode.f k s = some (c_readCode s) := by
  obtain ⟨k, rfl⟩ := c_up (k := k) (by omega)
  unfold spec_ReadCode.f c_readCode
  simp only [Option.bind_some]
  by_cases h1 : s.size % 2 = 0
  · rw [if_pos (by omega)]
    by_cases h2 : s.size > 120
    · rw [spec_ReadCode.j0, if_pos (by simp; omega), if_neg (by omega)]
    · rw [spec_ReadCode.j0, if_neg (by simp; omega), if_pos (by omega)]
      have := c_readCode_spec s (by omega) h1 (s.size / 2) k 0 [] (by omega) (by omega) (by omega) (by simp; omega)
      simpa using this
  · rw [if_neg (by omega), spec_ReadCode.j0, if_pos rfl, if_neg (by omega)]
theorem c_ReadCode_impl (s : ByteArray) (k : Nat) (hk : 122 ≤ k) : impl_ReadCode.f k s = some (c_readCode s) := by
  obtain ⟨k, rfl⟩ := c_up (k := k) (by omega)
  unfold impl_ReadCode.f c_readCode
  by_cases h1 : s.size % 2 = 0
  · rw [if_pos (by omega)]
    by_cases h2 : s.size > 120
    · rw [impl_ReadCode.j0, if_pos (by simp; omega), if_neg (by omega)]
    · rw [impl_ReadCode.j0, if_neg (by simp; omega), if_pos (by omega)]
      have := c_readCode_impl s (by omega) h1 (s.size / 2) k 0 [] (by omega) (by omega) (by omega) (by simp; omega)
      simpa using this
  · rw [if_neg (by omega), impl_ReadCode.j0, if_pos rfl, if_neg (by omega)]
theorem c_readCode_len (s : ByteArray) : (c_readCode s).1.length ≤ 120 := by
  unfold c_readCode
  split
  · exact c_code_len 120 _ (by rw [data_length]; omega)
  · simp

/-! ### codeback -/
theorem c_code_text (l : List S64) (h : l.all c_okI = true) : c_code ((c_text l).map fun n => UInt8.ofNat n.toNat) = l := by
  induction l with
  | nil => rfl
  | cons x l ih =>
    rw [List.all_cons, Bool.and_eq_true] at h
    have hx := h.1
    unfold c_okI at hx
    rw [Bool.and_eq_true, c_in_iff, c_in_iff] at hx
    have e0 : ((UInt8.ofNat (x.f0 % 256).toNat).toNat : Int) = x.f0 := by
      rw [UInt8.toNat_ofNat_of_lt' (by show _ < 256; omega)]
      omega
    have e1 : ((UInt8.ofNat (x.f1 % 256).toNat).toNat : Int) = x.f1 := by
      rw [UInt8.toNat_ofNat_of_lt' (by show _ < 256; omega)]
      omega
    rw [c_text_cons, List.map_append, List.map_cons, List.map_cons, List.map_nil]
    show (⟨((UInt8.ofNat (x.f0 % 256).toNat).toNat : Int), ((UInt8.ofNat (x.f1 % 256).toNat).toNat : Int)⟩ : S64) :: c_code ((c_text l).map fun n => UInt8.ofNat n.toNat) = x :: l
    rw [ih h.2, e0, e1]
theorem c_text_code (n : Nat) : ∀ L : List UInt8, L.length = 2 * n → (c_code L).length = n ∧ (c_code L).all c_okI = true ∧ (c_text (c_code L)).map (fun n => UInt8.ofNat n.toNat) = L := by
  induction n with
  | zero =>
    intro L hL
    have : L = [] := List.eq_nil_of_length_eq_zero (by omega)
    subst this
    exact ⟨rfl, rfl, rfl⟩
  | succ n ih =>
    intro L hL
    match L, hL with
    | a :: b :: L, hL =>
      obtain ⟨q1, q2, q3⟩ := ih L (by simp only [List.length_cons] at hL; omega)
      have ha := a.toNat_lt
      have hb := b.toNat_lt
      refine ⟨by rw [c_code, List.length_cons, q1], ?_, ?_⟩
      · rw [c_code, List.all_cons, q2, Bool.and_true]
        unfold c_okI
        rw [Bool.and_eq_true, c_in_iff, c_in_iff]
        simp only
        omega
      · have e0 : ((a.toNat : Int) % 256).toNat = a.toNat := by omega
        have e1 : ((b.toNat : Int) % 256).toNat = b.toNat := by omega
        rw [c_code, c_text_cons, List.map_append, q3, List.map_cons, List.map_cons, List.map_nil, e0, e1, UInt8.ofNat_toNat, UInt8.ofNat_toNat]
        rfl
theorem c_text_length (l : List S64) : (c_text l).length = 2 * l.length := by
  induction l with
  | nil => rfl
  | cons x l ih =>
    rw [c_text_cons, List.length_append, List.length_cons, ih]
    simp only [List.length_cons, List.length_nil]
    omega
theorem c_read_text (l : List S64) (h : c_codeOk l = true) : c_readCode (strOfNums (c_text l)) = (l, true) := by
  unfold c_codeOk at h
  rw [Bool.and_eq_true, decide_eq_true_iff] at h
  unfold c_readCode
  rw [strOfNums_size, c_text_length, if_pos (by omega), strOfNums_data, c_code_text l h.1]
theorem c_text_read (t : ByteArray) (h : (c_readCode t).2 = true) : (c_codeText (c_readCode t).1).1 = t := by
  unfold c_readCode at h ⊢
  by_cases hc : t.size % 2 = 0 ∧ t.size ≤ 120
  · rw [if_pos hc]
    obtain ⟨q1, q2, q3⟩ := c_text_code (t.size / 2) t.data.toList (by rw [data_length]; omega)
    have hok : c_codeOk (c_code t.data.toList) = true := by
      unfold c_codeOk
      rw [q2, q1, Bool.true_and, decide_eq_true_iff]
      omega
    show (c_codeText (c_code t.data.toList)).1 = t
    unfold c_codeText
    rw [if_pos hok]
    apply c_ext
    rw [strOfNums_data, q3]
  · rw [if_neg hc] at h
    exact absurd h (by decide)
theorem c_sameCode_l (l : List S64) (hl : l.length ≤ 9223372036854775807) (d : Nat) : ∀ (k i : Nat), l.length - i = d → i ≤ l.length → d < k → laws_sameCode.l0 k l l i = some true := by
  induction d with
  | zero =>
    intro k i hd hi hk
    obtain ⟨k, rfl⟩ := c_up (k := k) (by omega)
    rw [laws_sameCode.l0, if_neg (by omega)]
  | succ d ih =>
    intro k i hd hi hk
    obtain ⟨k, rfl⟩ := c_up (k := k) (by omega)
    rw [laws_sameCode.l0, if_pos (by omega), if_pos (by omega), if_pos (by omega), if_neg (by simp), c_inc' (n := l.length) (by omega) hl]
    exact ih k (i + 1) (by omega) (by omega) (by omega)
theorem c_sameCode (l : List S64) (hl : l.length ≤ 9223372036854775807) (k : Nat) (hk : l.length < k) : laws_sameCode.f k l l = some true := by
  unfold laws_sameCode.f
  rw [if_pos rfl]
  exact c_sameCode_l l hl l.length k 0 (by omega) (by omega) hk

/-! ### places -/
theorem c_big (l : List Int) : laws_big.f l = some (decide ((l.length : Int) > 1048576)) := rfl

/-! ### the law -/
theorem c_codes_j0 (l : List Int) (t : ByteArray) (ht : ∀ k, 4000 < k → spec_DrawReadCode.f k l = some t) (k : Nat) (hk : 4000 < k) : laws_FnCodes.j0 (k + 1) l false = some true := by
  have hlen := c_readCode_len t
  rw [laws_FnCodes.j0, if_neg (by decide), ht k hk]
  simp only [Option.bind_some]
  rw [c_ReadCode_impl t k (by omega), c_ReadCode_spec t k (by omega)]
  simp only [Option.bind_some]
  rw [c_CodeText_impl (c_readCode t).1 (by omega) k (by omega)]
  simp only [Option.bind_some]
  rw [if_pos (beq_self_eq_true _)]
  by_cases h2 : (c_readCode t).2 = true
  · rw [if_pos h2, c_text_read t h2, beq_self_eq_true]
  · rw [if_neg h2]
theorem FnCodes : laws_FnCodes.Pure := by
  intro l hl _ _
  unfold maxLen at hl
  by_cases hb : (l.length : Int) > 1048576
  · refine ⟨0, ?_⟩
    unfold laws_FnCodes.f
    rw [c_big]
    simp only [Option.bind_some]
    rw [if_pos (decide_eq_true hb)]
  · obtain ⟨r, hrl, hrd⟩ := c_DrawCodeText l (by omega)
    obtain ⟨t, ht⟩ := c_DrawReadCode l (by omega)
    have hj := c_codes_j0 l t ht 4001 (by omega)
    refine ⟨4001 + 1, ?_⟩
    unfold laws_FnCodes.f
    rw [c_big]
    simp only [Option.bind_some]
    rw [if_neg (by rw [decide_eq_true_iff]; exact hb), hrd _ (by omega)]
    simp only [Option.bind_some]
    rw [c_CodeText_impl r (by omega) _ (by omega)]
    simp only [Option.bind_some]
    rw [c_ReadCode_impl _ _ (by omega)]
    simp only [Option.bind_some]
    rw [c_CodeOk_spec r (by omega) _ (by omega), c_CodeOk_impl r (by omega) _ (by omega)]
    simp only [Option.bind_some]
    by_cases hok : c_codeOk r = true
    · have e : c_codeText r = (strOfNums (c_text r), true) := if_pos hok
      have e2 := c_read_text r hok
      rw [e, hok]
      simp only
      rw [e2]
      simp only
      rw [if_neg (by decide), if_neg (by decide), if_true, if_true, c_sameCode r (by omega) _ (by omega)]
      exact hj
    · have e : c_codeText r = ((⟨#[]⟩ : ByteArray), false) := if_neg hok
      rw [Bool.not_eq_true] at hok
      rw [e, hok]
      simp only
      rw [if_neg (by decide), if_neg (by decide), if_neg (by decide)]
      exact hj

end Go.Proofs.Yteehopjgmgelnaa.Pure
