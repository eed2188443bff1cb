/- FnRateParts: steps of a drawn rate in two parts are as all at once. No condition (the law itself answers true of a draw beyond 2^20 bytes). -/
import Derived.Test.YtimeeohggjagfaaMFnRatePartsx3
namespace Go.Proofs.Ytimeeohggjagfaa.Pure
open Go.RowKit Go.Proofs.Ytimeeohggjagfaa.PFnRateParts Go.Proofs.YtimeeohggjagfaaW.PrintWords Go.Proofs.YtimeeohggjagfaaW.PrintLast
set_option linter.unusedVariables false
set_option linter.unusedSimpArgs false

/-! ### base -/
theorem c_wrap {n : Int} (h0 : -9223372036854775808 ≤ n) (h1 : n ≤ 9223372036854775807) : wrap64 n = n := by unfold wrap64; omega
theorem c_wf {n : Int} (h : (Lit.int .i64 n).wf = true) : -9223372036854775808 ≤ n ∧ n ≤ 9223372036854775807 := by
  simpa [Lit.wf, IntKind.min, IntKind.max, IntKind.signed, IntKind.bits] using h
theorem c_wf32 {n : Int} (h : (Lit.int .u32 n).wf = true) : 0 ≤ n ∧ n ≤ 4294967295 := by
  simpa [Lit.wf, IntKind.min, IntKind.max, IntKind.signed, IntKind.bits] using h
theorem c_up {k : Nat} (h : 0 < k) : ∃ m, k = m + 1 := ⟨k - 1, by omega⟩

/-! ### ints -/
theorem c_rd {l : List Int} {i : Nat} (h : i < l.length) : rd l (i : Int) = l[i]'h := by
  unfold rd
  simp [h]
theorem c_rd_app (pre : List Int) (a : Int) (l : List Int) : rd (pre ++ a :: l) (pre.length : Int) = a := by
  unfold rd
  simp
theorem c_inc {i n : Nat} (h : i < n) (hn : n ≤ 9223372036854775807) : wrap64 ((i : Int) + 1) = ((i + 1 : Nat) : Int) := by rw [c_wrap (by omega) (by omega)]; omega

/-! ### draw -/
structure CSt (l : List Int) (i : Int) : Prop where
  lo : 0 ≤ i
  hi : i ≤ l.length
  sz : l.length ≤ 4611686018427387904
theorem c_and_le (x : Int) : 0 ≤ Go.bits .and .i64 x 255 ∧ Go.bits .and .i64 x 255 ≤ 255 := by
  have h : (BitVec.ofInt 64 x &&& BitVec.ofInt 64 255).toNat ≤ 255 := by
    rw [BitVec.toNat_and]
    exact Nat.le_trans Nat.and_le_right (by decide)
  have e : Go.bits .and .i64 x 255 = IntKind.i64.wrap ((BitVec.ofInt 64 x &&& BitVec.ofInt 64 255).toNat : Int) := rfl
  rw [e, IntKind.wrap_i64]
  omega
theorem c_new (l : List Int) (hl : l.length ≤ 4611686018427387904) (d : Nat) : ∀ (h : Int) (i : Nat), 4000 - i = d → i ≤ l.length → ∃ h', ∀ k, d < k → spec_l01New.l0 k l h i = some (l, 0, h') := by
  induction d with
  | zero =>
    intro h i hd hi
    refine ⟨h, fun k hk => ?_⟩
    obtain ⟨k, rfl⟩ := c_up (k := k) (by omega)
    rw [spec_l01New.l0]
    by_cases h1 : (i : Int) < (l.length : Int)
    · rw [if_pos h1, if_neg (by omega)]
    · rw [if_neg h1]
  | succ d ih =>
    intro h i hd hi
    by_cases h1 : i < l.length
    · obtain ⟨h', hh⟩ := ih (Go.bits .and .i64 (wrap64 ((wrap64 ((wrap64 (h * 131)) + (wrap64 (rd l i)))) + 7)) 1073741823) (i + 1) (by omega) (by omega)
      refine ⟨h', fun k hk => ?_⟩
      obtain ⟨k, rfl⟩ := c_up (k := k) (by omega)
      rw [spec_l01New.l0, if_pos (by omega), if_pos (by omega), if_pos (by omega), c_inc (n := l.length) (by omega) (by omega)]
      exact hh k (by omega)
    · refine ⟨h, fun k hk => ?_⟩
      obtain ⟨k, rfl⟩ := c_up (k := k) (by omega)
      rw [spec_l01New.l0, if_neg (by omega)]
theorem c_l01New (l : List Int) (hl : l.length ≤ 4611686018427387904) : ∃ h, ∀ k, 4000 < k → spec_l01New.f k l = some (l, 0, h) := by
  obtain ⟨h, hh⟩ := c_new l hl 4000 (wrap64 (37101 + (l.length : Int))) 0 rfl (by omega)
  exact ⟨h, fun k hk => by unfold spec_l01New.f; exact hh k hk⟩
theorem c_byte {l : List Int} {i : Int} (h : Int) (s : CSt l i) : ∃ x i' h', spec_l01Byte.f l i h = some (x, i', h') ∧ 0 ≤ x ∧ x ≤ 255 ∧ CSt l i' := by
  unfold spec_l01Byte.f
  have hlo := s.lo
  have hhi := s.hi
  have hsz := s.sz
  by_cases h1 : i < (l.length : Int)
  · rw [if_pos h1, if_pos hlo]
    refine ⟨_, _, _, rfl, (c_and_le _).1, (c_and_le _).2, ?_⟩
    rw [c_wrap (n := i + 1) (by omega) (by omega)]
    exact ⟨by omega, by omega, hsz⟩
  · rw [if_neg h1]
    exact ⟨_, _, _, rfl, (c_and_le _).1, (c_and_le _).2, s⟩
theorem c_below {l : List Int} {i : Int} (h : Int) (s : CSt l i) (n : Int) : ∃ x i' h', spec_l01Below.f l i h n = some (x, i', h') ∧ 0 ≤ x ∧ (0 < n → x < n) ∧ (n ≤ 0 → x = 0) ∧ CSt l i' := by
  unfold spec_l01Below.f
  by_cases h0 : n ≤ 0
  · rw [if_pos h0]
    exact ⟨_, _, _, rfl, by omega, by omega, fun _ => rfl, s⟩
  · rw [if_neg h0]
    by_cases h1 : n ≤ 256
    · obtain ⟨x, i', h', e, hx0, hx1, s'⟩ := c_byte h s
      rw [if_pos h1, e]
      simp only [Option.bind_some]
      rw [if_neg (by omega), Int.tmod_eq_emod_of_nonneg hx0]
      exact ⟨_, _, _, rfl, Int.emod_nonneg _ (by omega), fun _ => Int.emod_lt_of_pos _ (by omega), by omega, s'⟩
    · obtain ⟨x, i1, h1', e1, hx0, hx1, s1⟩ := c_byte h s
      obtain ⟨y, i2, h2', e2, hy0, hy1, s2⟩ := c_byte h1' s1
      obtain ⟨z, i3, h3', e3, hz0, hz1, s3⟩ := c_byte h2' s2
      obtain ⟨w, i4, h4', e4, hw0, hw1, s4⟩ := c_byte h3' s3
      rw [if_neg h1, e1]
      simp only [Option.bind_some]
      rw [e2]
      simp only [Option.bind_some]
      rw [e3]
      simp only [Option.bind_some]
      rw [e4]
      simp only [Option.bind_some]
      rw [if_neg (by omega), c_wrap (n := x * 16777216) (by omega) (by omega), c_wrap (n := y * 65536) (by omega) (by omega), c_wrap (n := z * 256) (by omega) (by omega), c_wrap (n := x * 16777216 + y * 65536) (by omega) (by omega), c_wrap (n := x * 16777216 + y * 65536 + z * 256) (by omega) (by omega), c_wrap (by omega) (by omega), Int.tmod_eq_emod_of_nonneg (by omega)]
      exact ⟨_, _, _, rfl, Int.emod_nonneg _ (by omega), fun _ => Int.emod_lt_of_pos _ (by omega), by omega, s4⟩
theorem c_pick {l : List Int} {i : Int} (h : Int) (s : CSt l i) (xs : List Int) (hx : 0 < xs.length) : ∃ x i' h', spec_l01PickInt.f l i h xs = some (x, i', h') ∧ x ∈ xs ∧ CSt l i' := by
  unfold spec_l01PickInt.f
  obtain ⟨x, i', h', e, hx0, hx1, _, s'⟩ := c_below h s (xs.length : Int)
  rw [e]
  simp only [Option.bind_some]
  rw [if_pos hx0, if_pos (hx1 (by omega))]
  refine ⟨_, _, _, rfl, ?_, s'⟩
  obtain ⟨j, rfl⟩ := Int.eq_ofNat_of_zero_le hx0
  have := hx1 (by omega)
  rw [c_rd (by omega)]
  exact List.getElem_mem _

/-! ### places -/
theorem c_places_l {l : List Int} (d : Nat) : ∀ (acc : List Int) (j : Nat) (i h : Int), 12 - j = d → j ≤ 12 → acc.length = j → (∀ x ∈ acc, 0 ≤ x ∧ x < 10000) → CSt l i → ∃ p : List Int, p.length = 12 ∧ (∀ x ∈ p, 0 ≤ x ∧ x < 10000) ∧ ∀ k, d < k → spec_DrawPlaces.l0 k acc j l i h = some p := by
  induction d with
  | zero =>
    intro acc j i h hd hj hl hacc s
    refine ⟨acc, by omega, hacc, fun k hk => ?_⟩
    obtain ⟨k, rfl⟩ := c_up (k := k) (by omega)
    rw [spec_DrawPlaces.l0, if_neg (by omega)]
  | succ d ih =>
    intro acc j i h hd hj hl hacc s
    obtain ⟨x, i', h', e, hx0, hx1, _, s'⟩ := c_below h s 10000
    obtain ⟨p, hp1, hp2, hp3⟩ := ih (acc ++ [x]) (j + 1) i' h' (by omega) (by omega) (by rw [List.length_append, List.length_singleton]; omega) (fun y hy => by
      rcases List.mem_append.1 hy with hy | hy
      · exact hacc y hy
      · rw [List.mem_singleton] at hy
        subst hy
        exact ⟨hx0, hx1 (by omega)⟩) s'
    refine ⟨p, hp1, hp2, fun k hk => ?_⟩
    obtain ⟨k, rfl⟩ := c_up (k := k) (by omega)
    rw [spec_DrawPlaces.l0, if_pos (by omega), e]
    simp only [Option.bind_some]
    rw [if_pos (by omega), c_inc (n := 12) (by omega) (by omega)]
    exact hp3 k (by omega)
theorem c_DrawPlaces (l : List Int) (hl : l.length ≤ 4611686018427387904) : ∃ p : List Int, p.length = 12 ∧ (∀ j : Nat, j < 12 → 0 ≤ rd p j ∧ rd p j < 10000) ∧ ∀ k, 4000 < k → spec_DrawPlaces.f k l = some p := by
  obtain ⟨h, hh⟩ := c_l01New l hl
  obtain ⟨x, i', h', e, hx0, hx1, s'⟩ := c_byte (l := l) (i := 0) h ⟨by omega, by omega, hl⟩
  obtain ⟨p, hp1, hp2, hp3⟩ := c_places_l 12 [] 0 i' h' rfl (by omega) rfl (by simp) s'
  refine ⟨p, hp1, fun j hj => ?_, fun k hk => ?_⟩
  · rw [c_rd (by omega)]
    exact hp2 _ (List.getElem_mem _)
  · unfold spec_DrawPlaces.f
    rw [hh k hk]
    simp only [Option.bind_some]
    rw [e]
    simp only [Option.bind_some]
    exact hp3 k (by omega)
theorem c_big (l : List Int) : laws_big.f l = some (decide ((l.length : Int) > 1048576)) := rfl

/-! ### within -/
def c_in (n l h : Int) : Bool := decide (l ≤ n) && decide (n ≤ h)
theorem c_in_iff {n l h : Int} : c_in n l h = true ↔ l ≤ n ∧ n ≤ h := by simp [c_in]
theorem c_in_no {n l h : Int} : ¬ c_in n l h = true ↔ n < l ∨ h < n := by rw [c_in_iff]; omega

/-! ### within_s -/
theorem c_l01In (n l h : Int) : spec_l01In.f n l h = some (c_in n l h) := by
  unfold spec_l01In.f c_in
  by_cases h0 : n ≥ l
  · rw [if_pos h0]; simp [h0]
  · rw [if_neg h0]; simp; omega

/-! ### within_i -/
theorem c_within (n l h : Int) : impl_within.f n l h = some (c_in n l h) := by
  unfold impl_within.f c_in
  by_cases h0 : n ≥ l
  · rw [if_pos h0]; simp [h0]
  · rw [if_neg h0]; simp; omega

/-! ### rateok -/
def c_rateOk (a b c : Int) : Bool := c_in a 0 1000000 && c_in b 1 1000000 && c_in c 0 (b - 1)
theorem c_rateOk_iff {a b c : Int} : c_rateOk a b c = true ↔ (0 ≤ a ∧ a ≤ 1000000) ∧ (1 ≤ b ∧ b ≤ 1000000) ∧ 0 ≤ c ∧ c ≤ b - 1 := by
  unfold c_rateOk
  rw [Bool.and_eq_true, Bool.and_eq_true, c_in_iff, c_in_iff, c_in_iff, and_assoc]
theorem c_rate_spec (a b c : Int) : spec_RateOk.f a b c = some (c_rateOk a b c) := by
  unfold spec_RateOk.f c_rateOk
  simp only [c_l01In, Option.bind_some]
  by_cases h1 : c_in a 0 1000000 = true
  · rw [if_pos h1]
    by_cases h2 : c_in b 1 1000000 = true
    · rw [if_pos h2, c_wrap (by rw [c_in_iff] at h2; omega) (by rw [c_in_iff] at h2; omega), h1, h2]; simp
    · rw [if_neg h2]; simp [h2]
  · rw [if_neg h1]; simp [h1]
theorem c_rate_impl (a b c : Int) : impl_RateOk.f a b c = some (c_rateOk a b c) := by
  unfold impl_RateOk.f c_rateOk
  simp only [c_within, Option.bind_some]
  by_cases h1 : c_in a 0 1000000 = true
  · rw [if_pos h1]
    by_cases h2 : c_in b 1 1000000 = true
    · rw [if_pos h2, c_wrap (by rw [c_in_iff] at h2; omega) (by rw [c_in_iff] at h2; omega), h1, h2]; simp
    · rw [if_neg h2]; simp [h2]
  · rw [if_neg h1]; simp [h1]

/-! ### steprate -/
def c_step (a b c : Int) : Int × Int × Int × Int := if c_rateOk a b c = true then (a, b, (c + a) % b, (c + a) / b) else (a, b, c, 0)
theorem c_step_spec (a b c : Int) : spec_StepRate.f a b c = some (c_step a b c) := by
  unfold spec_StepRate.f c_step
  rw [c_rate_spec]
  simp only [Option.bind_some]
  by_cases h : c_rateOk a b c = true
  · have h' := c_rateOk_iff.1 h
    rw [if_pos h, if_pos h, if_neg (by omega), c_wrap (n := c + a) (by omega) (by omega), Int.tmod_eq_emod_of_nonneg (by omega), Int.tdiv_eq_ediv_of_nonneg (by omega), c_wrap]
    · have := Int.ediv_nonneg (a := c + a) (b := b) (by omega) (by omega); omega
    · have := Int.ediv_le_self b (a := c + a) (by omega); omega
  · rw [if_neg h, if_neg h]
theorem c_step_impl (a b c : Int) : impl_StepRate.f a b c = some (c_step a b c) := by
  unfold impl_StepRate.f c_step
  rw [c_rate_impl]
  simp only [Option.bind_some]
  by_cases h : c_rateOk a b c = true
  · have h' := c_rateOk_iff.1 h
    rw [if_pos h, if_pos h, if_neg (by omega), c_wrap (n := c + a) (by omega) (by omega), Int.tmod_eq_emod_of_nonneg (by omega), Int.tdiv_eq_ediv_of_nonneg (by omega), c_wrap]
    · have := Int.ediv_nonneg (a := c + a) (b := b) (by omega) (by omega); omega
    · have := Int.ediv_le_self b (a := c + a) (by omega); omega
  · rw [if_neg h, if_neg h]

/-! ### runrate -/
def c_run : Nat → Int → Int → Int → Int → Int × Int × Int × Int
  | 0, s, a, b, c => (a, b, c, s)
  | n + 1, s, a, b, c => c_run n (wrap64 (s + (c_step a b c).2.2.2)) (c_step a b c).1 (c_step a b c).2.1 (c_step a b c).2.2.1

/-! ### runparts -/
theorem c_wrap_wrap (x y : Int) : wrap64 (wrap64 x + y) = wrap64 (x + y) := by unfold wrap64; omega
theorem c_wrap_wrap2 (x y : Int) : wrap64 (wrap64 x + wrap64 y) = wrap64 (x + y) := by unfold wrap64; omega
def c_sumR : Nat → Int → Int → Int → Int
  | 0, _, _, _ => 0
  | n + 1, a, b, c => (c_step a b c).2.2.2 + c_sumR n (c_step a b c).1 (c_step a b c).2.1 (c_step a b c).2.2.1
def c_rateN : Nat → Int → Int → Int → Int × Int × Int
  | 0, a, b, c => (a, b, c)
  | n + 1, a, b, c => c_rateN n (c_step a b c).1 (c_step a b c).2.1 (c_step a b c).2.2.1
theorem c_run_eq (n : Nat) : ∀ (s a b c : Int), wrap64 s = s → c_run n s a b c = ((c_rateN n a b c).1, (c_rateN n a b c).2.1, (c_rateN n a b c).2.2, wrap64 (s + c_sumR n a b c)) := by
  induction n with
  | zero =>
    intro s a b c hs
    simp only [c_run, c_rateN, c_sumR, Int.add_zero, hs]
  | succ n ih =>
    intro s a b c hs
    have hw : ∀ x, wrap64 (wrap64 x) = wrap64 x := fun x => by unfold wrap64; omega
    rw [c_run, ih _ _ _ _ (hw _), c_wrap_wrap]
    simp only [c_rateN, c_sumR]
    rw [Int.add_assoc]
theorem c_rateN_add (n m : Nat) : ∀ (a b c : Int), c_rateN (n + m) a b c = c_rateN m (c_rateN n a b c).1 (c_rateN n a b c).2.1 (c_rateN n a b c).2.2 := by
  induction n with
  | zero => intro a b c; rw [Nat.zero_add]; rfl
  | succ n ih => intro a b c; rw [Nat.succ_add, c_rateN, ih]; rfl
theorem c_sumR_add (n m : Nat) : ∀ (a b c : Int), c_sumR (n + m) a b c = c_sumR n a b c + c_sumR m (c_rateN n a b c).1 (c_rateN n a b c).2.1 (c_rateN n a b c).2.2 := by
  induction n with
  | zero => intro a b c; rw [Nat.zero_add]; simp [c_sumR, c_rateN]
  | succ n ih => intro a b c; rw [Nat.succ_add, c_sumR, ih, c_sumR, c_rateN]; omega
theorem c_rateN_no {a b c : Int} (h : ¬ c_rateOk a b c = true) (n : Nat) : c_rateN n a b c = (a, b, c) := by
  have hs : c_step a b c = (a, b, c, 0) := by unfold c_step; rw [if_neg h]
  induction n with
  | zero => rfl
  | succ n ih => rw [c_rateN, hs]; exact ih

/-! ### runrate_i -/
theorem c_run_impl (n : Int) (hn : n ≤ 1000) (d : Nat) : ∀ (k i : Nat) (s a b c : Int), n.toNat - i = d → d < k → impl_RunRate.l0 k s n i a b c = some (c_run d s a b c) := by
  induction d with
  | zero =>
    intro k i s a b c hd hk
    obtain ⟨k, rfl⟩ := c_up (k := k) (by omega)
    rw [impl_RunRate.l0, if_neg (by omega)]
    rfl
  | succ d ih =>
    intro k i s a b c hd hk
    obtain ⟨k, rfl⟩ := c_up (k := k) (by omega)
    have hw : Aside0 (wrap64 ((i : Int) + 1) = ((i + 1 : Nat) : Int)) := ⟨by rw [c_wrap (by omega) (by omega)]; omega⟩
    rw [impl_RunRate.l0, if_pos (by omega), c_step_impl, hw.out]
    simp only [Option.bind_some]
    rw [ih k (i + 1) _ _ _ _ (by omega) (by omega)]
    rfl
theorem c_mn (n : Int) : mn n 1000 = min n 1000 := by unfold mn; split <;> omega
theorem c_RunRate_impl (n a b c : Int) (k : Nat) (hk : 1000 < k) : impl_RunRate.f k a b c n = some (c_run (min n 1000).toNat 0 a b c) := by
  unfold impl_RunRate.f
  rw [c_mn]
  exact c_run_impl _ (by omega) _ k 0 0 a b c (by omega) (by omega)

/-! ### drawrate -/
theorem c_l03Rate {l : List Int} {i : Int} (h : Int) (s : CSt l i) : ∃ a b c i' h', spec_l03Rate.f l i h = some (a, b, c, i', h') ∧ CSt l i' := by
  unfold spec_l03Rate.f
  obtain ⟨x1, i1, h1, e1, _, _, _, s1⟩ := c_below h s 60
  obtain ⟨x2, i2, h2, e2, _, _, _, s2⟩ := c_below h1 s1 40
  obtain ⟨x3, i3, h3, e3, _, _, _, s3⟩ := c_below h2 s2 (wrap64 (1 + x2))
  obtain ⟨x4, i4, h4, e4, _, _, _, s4⟩ := c_below h3 s3 16
  rw [e1]
  simp only [Option.bind_some]
  rw [e2]
  simp only [Option.bind_some]
  rw [e3]
  simp only [Option.bind_some]
  rw [e4]
  simp only [Option.bind_some]
  by_cases c0 : x4 = 0
  · obtain ⟨y, i5, h5, e5, _, s5⟩ := c_pick h4 s4 [(-1), 1000000, 1000001] (by simp)
    rw [if_pos c0, e5]
    exact ⟨_, _, _, _, _, rfl, s5⟩
  · rw [if_neg c0]
    by_cases c1 : x4 = 1
    · obtain ⟨y, i5, h5, e5, _, s5⟩ := c_pick h4 s4 [0, 1, 1000000, 1000001] (by simp)
      rw [if_pos c1, e5]
      exact ⟨_, _, _, _, _, rfl, s5⟩
    · rw [if_neg c1]
      by_cases c2 : x4 = 2
      · obtain ⟨y, i5, h5, e5, _, s5⟩ := c_pick h4 s4 [(-1), wrap64 (1 + x2)] (by simp)
        rw [if_pos c2, e5]
        exact ⟨_, _, _, _, _, rfl, s5⟩
      · rw [if_neg c2]
        exact ⟨_, _, _, _, _, rfl, s4⟩
theorem c_DrawStepRate (l : List Int) (hl : l.length ≤ 4611686018427387904) : ∃ x : Int × Int × Int, ∀ k, 4000 < k → spec_DrawStepRate.f k l = some x := by
  obtain ⟨h, hh⟩ := c_l01New l hl
  obtain ⟨a, b, c, i1, h1, e1, s1⟩ := c_l03Rate (l := l) (i := 0) h ⟨by omega, by omega, hl⟩
  refine ⟨(a, b, c), fun k hk => ?_⟩
  unfold spec_DrawStepRate.f
  rw [hh k hk]
  simp only [Option.bind_some]
  rw [e1]
  rfl

/-! ### the law -/
theorem FnRateParts : laws_FnRateParts.Pure := by
  intro l hl _ _
  unfold maxLen at hl
  by_cases hb : (l.length : Int) > 1048576
  · refine ⟨0, ?_⟩
    unfold laws_FnRateParts.f
    rw [c_big]
    simp only [Option.bind_some]
    rw [if_pos (decide_eq_true hb)]
  · obtain ⟨p, hp, hr, hpl⟩ := c_DrawPlaces l (by omega)
    obtain ⟨x, hx⟩ := c_DrawStepRate l (by omega)
    have h0 : 0 ≤ rd p 0 ∧ rd p 0 < 10000 := hr 0 (by omega)
    have h1 : 0 ≤ rd p 1 ∧ rd p 1 < 10000 := hr 1 (by omega)
    refine ⟨4001, ?_⟩
    unfold laws_FnRateParts.f
    rw [c_big]
    simp only [Option.bind_some]
    rw [if_neg (by rw [decide_eq_true_iff]; exact hb), hx _ (by omega)]
    simp only [Option.bind_some]
    rw [hpl _ (by omega)]
    simp only [Option.bind_some]
    rw [if_pos (by omega), if_pos (by omega)]
    clear hr hpl hx
    obtain ⟨n, hn, hn1⟩ : ∃ n : Nat, Int.tmod (rd p 0) 50 = (n : Int) ∧ n < 50 := ⟨(rd p 0 % 50).toNat, by rw [Int.tmod_eq_emod_of_nonneg h0.1]; omega, by omega⟩
    obtain ⟨m, hm, hm1⟩ : ∃ m : Nat, Int.tmod (rd p 1) 50 = (m : Int) ∧ m < 50 := ⟨(rd p 1 % 50).toNat, by rw [Int.tmod_eq_emod_of_nonneg h1.1]; omega, by omega⟩
    have hn := Aside0.mk hn
    have hm := Aside0.mk hm
    rw [hn.out, hm.out, c_wrap (n := (n : Int) + (m : Int)) (by omega) (by omega)]
    obtain ⟨a, b, c⟩ := x
    have e1 : (min (n : Int) 1000).toNat = n := by omega
    have e2 : (min (m : Int) 1000).toNat = m := by omega
    have e3 : (min ((n : Int) + (m : Int)) 1000).toNat = n + m := by omega
    have w0 : wrap64 0 = 0 := by unfold wrap64; omega
    simp only [c_RunRate_impl _ _ _ _ 4001 (by omega), Option.bind_some, c_step_impl, c_step_spec, c_rate_impl]
    rw [e1, e2, e3, c_run_eq n 0 a b c w0]
    simp only
    rw [c_run_eq m 0 _ _ _ w0, c_run_eq (n + m) 0 a b c w0, c_rateN_add, c_sumR_add]
    simp only [Int.zero_add, beq_self_eq_true, Bool.and_self, if_true, c_wrap_wrap2]
    by_cases hok : c_rateOk a b c = true
    · rw [if_pos hok]
    · have hs : c_step a b c = (a, b, c, 0) := by unfold c_step; rw [if_neg hok]
      rw [if_neg hok, hs, if_pos rfl, c_rateN_no hok, c_rateN_no hok]
      simp

end Go.Proofs.Ytimeeohggjagfaa.Pure
