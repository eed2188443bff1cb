/- FnRates: a drawn rate gives in so many steps just as much as it says, down, and keeps the rest. No condition (the law itself answers true of a draw beyond 2^20 bytes). -/
import Derived.Test.YtdbogijlpplcgaaMFnRatesx2
namespace Go.Proofs.Ytdbogijlpplcgaa.Pure
open Go.RowKit Go.Proofs.Ytdbogijlpplcgaa.PFnRates Go.Proofs.YtdbogijlpplcgaaW.PrintWords Go.Proofs.YtdbogijlpplcgaaW.PrintLast
set_option linter.unusedVariables false
set_option linter.unusedSimpArgs false

/-! ### base -/
theorem c_wrap {n : Int} (h0 : -9223372036854775808 ≤ n) (h1 : n ≤ 9223372036854775807) : wrap64 n = n := by unfold wrap64; omega
theorem c_wf {n : Int} (h : (Lit.int .i64 n).wf = true) : -9223372036854775808 ≤ n ∧ n ≤ 9223372036854775807 := by
  simpa [Lit.wf, IntKind.min, IntKind.max, IntKind.signed, IntKind.bits] using h
theorem c_wf32 {n : Int} (h : (Lit.int .u32 n).wf = true) : 0 ≤ n ∧ n ≤ 4294967295 := by
  simpa [Lit.wf, IntKind.min, IntKind.max, IntKind.signed, IntKind.bits] using h
theorem c_up {k : Nat} (h : 0 < k) : ∃ m, k = m + 1 := ⟨k - 1, by omega⟩

/-! ### ints -/
theorem c_rd {l : List Int} {i : Nat} (h : i < l.length) : rd l (i : Int) = l[i]'h := by
  unfold rd
  simp [h]
theorem c_rd_app (pre : List Int) (a : Int) (l : List Int) : rd (pre ++ a :: l) (pre.length : Int) = a := by
  unfold rd
  simp
theorem c_inc {i n : Nat} (h : i < n) (hn : n ≤ 9223372036854775807) : wrap64 ((i : Int) + 1) = ((i + 1 : Nat) : Int) := by rw [c_wrap (by omega) (by omega)]; omega

/-! ### draw -/
structure CSt (l : List Int) (i : Int) : Prop where
  lo : 0 ≤ i
  hi : i ≤ l.length
  sz : l.length ≤ 4611686018427387904
theorem c_and_le (x : Int) : 0 ≤ Go.bits .and .i64 x 255 ∧ Go.bits .and .i64 x 255 ≤ 255 := by
  have h : (BitVec.ofInt 64 x &&& BitVec.ofInt 64 255).toNat ≤ 255 := by
    rw [BitVec.toNat_and]
    exact Nat.le_trans Nat.and_le_right (by decide)
  have e : Go.bits .and .i64 x 255 = IntKind.i64.wrap ((BitVec.ofInt 64 x &&& BitVec.ofInt 64 255).toNat : Int) := rfl
  rw [e, IntKind.wrap_i64]
  omega
theorem c_new (l : List Int) (hl : l.length ≤ 4611686018427387904) (d : Nat) : ∀ (h : Int) (i : Nat), 4000 - i = d → i ≤ l.length → ∃ h', ∀ k, d < k → spec_l01New.l0 k l h i = some (l, 0, h') := by
  induction d with
  | zero =>
    intro h i hd hi
    refine ⟨h, fun k hk => ?_⟩
    obtain ⟨k, rfl⟩ := c_up (k := k) (by omega)
    rw [spec_l01New.l0]
    by_cases h1 : (i : Int) < (l.length : Int)
    · rw [if_pos h1, if_neg (by omega)]
    · rw [if_neg h1]
  | succ d ih =>
    intro h i hd hi
    by_cases h1 : i < l.length
    · obtain ⟨h', hh⟩ := ih (Go.bits .and .i64 (wrap64 ((wrap64 ((wrap64 (h * 131)) + (wrap64 (rd l i)))) + 7)) 1073741823) (i + 1) (by omega) (by omega)
      refine ⟨h', fun k hk => ?_⟩
      obtain ⟨k, rfl⟩ := c_up (k := k) (by omega)
      rw [spec_l01New.l0, if_pos (by omega), if_pos (by omega), if_pos (by omega), c_inc (n := l.length) (by omega) (by omega)]
      exact hh k (by omega)
    · refine ⟨h, fun k hk => ?_⟩
      obtain ⟨k, rfl⟩ := c_up (k := k) (by omega)
      rw [spec_l01New.l0, if_neg (by omega)]
theorem c_l01New (l : List Int) (hl : l.length ≤ 4611686018427387904) : ∃ h, ∀ k, 4000 < k → spec_l01New.f k l = some (l, 0, h) := by
  obtain ⟨h, hh⟩ := c_new l hl 4000 (wrap64 (37101 + (l.length : Int))) 0 rfl (by omega)
  exact ⟨h, fun k hk => by unfold spec_l01New.f; exact hh k hk⟩
theorem c_byte {l : List Int} {i : Int} (h : Int) (s : CSt l i) : ∃ x i' h', spec_l01Byte.f l i h = some (x, i', h') ∧ 0 ≤ x ∧ x ≤ 255 ∧ CSt l i' := by
  unfold spec_l01Byte.f
  have hlo := s.lo
  have hhi := s.hi
  have hsz := s.sz
  by_cases h1 : i < (l.length : Int)
  · rw [if_pos h1, if_pos hlo]
    refine ⟨_, _, _, rfl, (c_and_le _).1, (c_and_le _).2, ?_⟩
    rw [c_wrap (n := i + 1) (by omega) (by omega)]
    exact ⟨by omega, by omega, hsz⟩
  · rw [if_neg h1]
    exact ⟨_, _, _, rfl, (c_and_le _).1, (c_and_le _).2, s⟩
theorem c_below {l : List Int} {i : Int} (h : Int) (s : CSt l i) (n : Int) : ∃ x i' h', spec_l01Below.f l i h n = some (x, i', h') ∧ 0 ≤ x ∧ (0 < n → x < n) ∧ (n ≤ 0 → x = 0) ∧ CSt l i' := by
  unfold spec_l01Below.f
  by_cases h0 : n ≤ 0
  · rw [if_pos h0]
    exact ⟨_, _, _, rfl, by omega, by omega, fun _ => rfl, s⟩
  · rw [if_neg h0]
    by_cases h1 : n ≤ 256
    · obtain ⟨x, i', h', e, hx0, hx1, s'⟩ := c_byte h s
      rw [if_pos h1, e]
      simp only [Option.bind_some]
      rw [if_neg (by omega), Int.tmod_eq_emod_of_nonneg hx0]
      exact ⟨_, _, _, rfl, Int.emod_nonneg _ (by omega), fun _ => Int.emod_lt_of_pos _ (by omega), by omega, s'⟩
    · obtain ⟨x, i1, h1', e1, hx0, hx1, s1⟩ := c_byte h s
      obtain ⟨y, i2, h2', e2, hy0, hy1, s2⟩ := c_byte h1' s1
      obtain ⟨z, i3, h3', e3, hz0, hz1, s3⟩ := c_byte h2' s2
      obtain ⟨w, i4, h4', e4, hw0, hw1, s4⟩ := c_byte h3' s3
      rw [if_neg h1, e1]
      simp only [Option.bind_some]
      rw [e2]
      simp only [Option.bind_some]
      rw [e3]
      simp only [Option.bind_some]
      rw [e4]
      simp only [Option.bind_some]
      rw [if_neg (by omega), c_wrap (n := x * 16777216) (by omega) (by omega), c_wrap (n := y * 65536) (by omega) (by omega), c_wrap (n := z * 256) (by omega) (by omega), c_wrap (n := x * 16777216 + y * 65536) (by omega) (by omega), c_wrap (n := x * 16777216 + y * 65536 + z * 256) (by omega) (by omega), c_wrap (by omega) (by omega), Int.tmod_eq_emod_of_nonneg (by omega)]
      exact ⟨_, _, _, rfl, Int.emod_nonneg _ (by omega), fun _ => Int.emod_lt_of_pos _ (by omega), by omega, s4⟩

/-! ### places -/
theorem c_places_l {l : List Int} (d : Nat) : ∀ (acc : List Int) (j : Nat) (i h : Int), 12 - j = d → j ≤ 12 → acc.length = j → (∀ x ∈ acc, 0 ≤ x ∧ x < 10000) → CSt l i → ∃ p : List Int, p.length = 12 ∧ (∀ x ∈ p, 0 ≤ x ∧ x < 10000) ∧ ∀ k, d < k → spec_DrawPlaces.l0 k acc j l i h = some p := by
  induction d with
  | zero =>
    intro acc j i h hd hj hl hacc s
    refine ⟨acc, by omega, hacc, fun k hk => ?_⟩
    obtain ⟨k, rfl⟩ := c_up (k := k) (by omega)
    rw [spec_DrawPlaces.l0, if_neg (by omega)]
  | succ d ih =>
    intro acc j i h hd hj hl hacc s
    obtain ⟨x, i', h', e, hx0, hx1, _, s'⟩ := c_below h s 10000
    obtain ⟨p, hp1, hp2, hp3⟩ := ih (acc ++ [x]) (j + 1) i' h' (by omega) (by omega) (by rw [List.length_append, List.length_singleton]; omega) (fun y hy => by
      rcases List.mem_append.1 hy with hy | hy
      · exact hacc y hy
      · rw [List.mem_singleton] at hy
        subst hy
        exact ⟨hx0, hx1 (by omega)⟩) s'
    refine ⟨p, hp1, hp2, fun k hk => ?_⟩
    obtain ⟨k, rfl⟩ := c_up (k := k) (by omega)
    rw [spec_DrawPlaces.l0, if_pos (by omega), e]
    simp only [Option.bind_some]
    rw [if_pos (by omega), c_inc (n := 12) (by omega) (by omega)]
    exact hp3 k (by omega)
theorem c_DrawPlaces (l : List Int) (hl : l.length ≤ 4611686018427387904) : ∃ p : List Int, p.length = 12 ∧ (∀ j : Nat, j < 12 → 0 ≤ rd p j ∧ rd p j < 10000) ∧ ∀ k, 4000 < k → spec_DrawPlaces.f k l = some p := by
  obtain ⟨h, hh⟩ := c_l01New l hl
  obtain ⟨x, i', h', e, hx0, hx1, s'⟩ := c_byte (l := l) (i := 0) h ⟨by omega, by omega, hl⟩
  obtain ⟨p, hp1, hp2, hp3⟩ := c_places_l 12 [] 0 i' h' rfl (by omega) rfl (by simp) s'
  refine ⟨p, hp1, fun j hj => ?_, fun k hk => ?_⟩
  · rw [c_rd (by omega)]
    exact hp2 _ (List.getElem_mem _)
  · unfold spec_DrawPlaces.f
    rw [hh k hk]
    simp only [Option.bind_some]
    rw [e]
    simp only [Option.bind_some]
    exact hp3 k (by omega)
theorem c_big (l : List Int) : laws_big.f l = some (decide ((l.length : Int) > 1048576)) := rfl

/-! ### within -/
def c_in (n l h : Int) : Bool := decide (l ≤ n) && decide (n ≤ h)
theorem c_in_iff {n l h : Int} : c_in n l h = true ↔ l ≤ n ∧ n ≤ h := by simp [c_in]
theorem c_in_no {n l h : Int} : ¬ c_in n l h = true ↔ n < l ∨ h < n := by rw [c_in_iff]; omega

/-! ### within_i -/
theorem c_within (n l h : Int) : impl_within.f n l h = some (c_in n l h) := by
  unfold impl_within.f c_in
  by_cases h0 : n ≥ l
  · rw [if_pos h0]; simp [h0]
  · rw [if_neg h0]; simp; omega

/-! ### rateok -/
def c_rateOk (a b c : Int) : Bool := c_in a 0 1000000 && c_in b 1 1000000 && c_in c 0 (b - 1)
theorem c_rateOk_iff {a b c : Int} : c_rateOk a b c = true ↔ (0 ≤ a ∧ a ≤ 1000000) ∧ (1 ≤ b ∧ b ≤ 1000000) ∧ 0 ≤ c ∧ c ≤ b - 1 := by
  unfold c_rateOk
  rw [Bool.and_eq_true, Bool.and_eq_true, c_in_iff, c_in_iff, c_in_iff, and_assoc]
theorem c_rate_impl (a b c : Int) : impl_RateOk.f a b c = some (c_rateOk a b c) := by
  unfold impl_RateOk.f c_rateOk
  simp only [c_within, Option.bind_some]
  by_cases h1 : c_in a 0 1000000 = true
  · rw [if_pos h1]
    by_cases h2 : c_in b 1 1000000 = true
    · rw [if_pos h2, c_wrap (by rw [c_in_iff] at h2; omega) (by rw [c_in_iff] at h2; omega), h1, h2]; simp
    · rw [if_neg h2]; simp [h2]
  · rw [if_neg h1]; simp [h1]

/-! ### steprate -/
def c_step (a b c : Int) : Int × Int × Int × Int := if c_rateOk a b c = true then (a, b, (c + a) % b, (c + a) / b) else (a, b, c, 0)
theorem c_step_impl (a b c : Int) : impl_StepRate.f a b c = some (c_step a b c) := by
  unfold impl_StepRate.f c_step
  rw [c_rate_impl]
  simp only [Option.bind_some]
  by_cases h : c_rateOk a b c = true
  · have h' := c_rateOk_iff.1 h
    rw [if_pos h, if_pos h, if_neg (by omega), c_wrap (n := c + a) (by omega) (by omega), Int.tmod_eq_emod_of_nonneg (by omega), Int.tdiv_eq_ediv_of_nonneg (by omega), c_wrap]
    · have := Int.ediv_nonneg (a := c + a) (b := b) (by omega) (by omega); omega
    · have := Int.ediv_le_self b (a := c + a) (by omega); omega
  · rw [if_neg h, if_neg h]

/-! ### runrate -/
def c_run : Nat → Int → Int → Int → Int → Int × Int × Int × Int
  | 0, s, a, b, c => (a, b, c, s)
  | n + 1, s, a, b, c => c_run n (wrap64 (s + (c_step a b c).2.2.2)) (c_step a b c).1 (c_step a b c).2.1 (c_step a b c).2.2.1

/-! ### runrate_i -/
theorem c_run_impl (n : Int) (hn : n ≤ 1000) (d : Nat) : ∀ (k i : Nat) (s a b c : Int), n.toNat - i = d → d < k → impl_RunRate.l0 k s n i a b c = some (c_run d s a b c) := by
  induction d with
  | zero =>
    intro k i s a b c hd hk
    obtain ⟨k, rfl⟩ := c_up (k := k) (by omega)
    rw [impl_RunRate.l0, if_neg (by omega)]
    rfl
  | succ d ih =>
    intro k i s a b c hd hk
    obtain ⟨k, rfl⟩ := c_up (k := k) (by omega)
    have hw : Aside0 (wrap64 ((i : Int) + 1) = ((i + 1 : Nat) : Int)) := ⟨by rw [c_wrap (by omega) (by omega)]; omega⟩
    rw [impl_RunRate.l0, if_pos (by omega), c_step_impl, hw.out]
    simp only [Option.bind_some]
    rw [ih k (i + 1) _ _ _ _ (by omega) (by omega)]
    rfl
theorem c_mn (n : Int) : mn n 1000 = min n 1000 := by unfold mn; split <;> omega
theorem c_RunRate_impl (n a b c : Int) (k : Nat) (hk : 1000 < k) : impl_RunRate.f k a b c n = some (c_run (min n 1000).toNat 0 a b c) := by
  unfold impl_RunRate.f
  rw [c_mn]
  exact c_run_impl _ (by omega) _ k 0 0 a b c (by omega) (by omega)

/-! ### runval -/
theorem c_run_val {a b : Int} (ha0 : 0 ≤ a) (ha1 : a ≤ 1000) (hb0 : 1 ≤ b) (hb1 : b ≤ 1000) (n : Nat) : ∀ (s c : Int), 0 ≤ c → c ≤ b - 1 → 0 ≤ s → s + (n : Int) * 2000 ≤ 1000000000 → c_run n s a b c = (a, b, (c + (n : Int) * a) % b, s + (c + (n : Int) * a) / b) := by
  induction n with
  | zero =>
    intro s c h0 h1 _ _
    have e : c + ((0 : Nat) : Int) * a = c := by simp
    rw [e, Int.emod_eq_of_lt h0 (by omega), Int.ediv_eq_zero_of_lt h0 (by omega), Int.add_zero]
    rfl
  | succ n ih =>
    intro s c h0 h1 hs hb
    have hok : c_rateOk a b c = true := c_rateOk_iff.2 ⟨⟨ha0, by omega⟩, ⟨hb0, by omega⟩, h0, h1⟩
    have hst : c_step a b c = (a, b, (c + a) % b, (c + a) / b) := by unfold c_step; rw [if_pos hok]
    have hq0 : 0 ≤ (c + a) / b := Int.ediv_nonneg (by omega) (by omega)
    have hq1 : (c + a) / b ≤ c + a := Int.ediv_le_self b (by omega)
    have hr0 : 0 ≤ (c + a) % b := Int.emod_nonneg _ (by omega)
    have hr1 : (c + a) % b < b := Int.emod_lt_of_pos _ (by omega)
    have hsplit : c + ((n + 1 : Nat) : Int) * a = ((c + a) % b + (n : Int) * a) + b * ((c + a) / b) := by
      have := Int.emod_add_mul_ediv (c + a) b
      rw [Int.natCast_add, Int.add_mul]
      simp only [Int.natCast_one, Int.one_mul]
      omega
    rw [c_run, hst]
    simp only
    rw [c_wrap (by omega) (by omega), ih (s + (c + a) / b) ((c + a) % b) hr0 (by omega) (by omega) (by omega), hsplit, Int.add_mul_emod_self_left, Int.add_mul_ediv_left _ _ (by omega)]
    congr 3
    omega

/-! ### the law -/
theorem FnRates : laws_FnRates.Pure := by
  intro l hl _ _
  unfold maxLen at hl
  by_cases hb : (l.length : Int) > 1048576
  · refine ⟨0, ?_⟩
    unfold laws_FnRates.f
    rw [c_big]
    simp only [Option.bind_some]
    rw [if_pos (decide_eq_true hb)]
  · obtain ⟨p, hp, hr, hpl⟩ := c_DrawPlaces l (by omega)
    have h0 : 0 ≤ rd p 0 ∧ rd p 0 < 10000 := hr 0 (by omega)
    have h1 : 0 ≤ rd p 1 ∧ rd p 1 < 10000 := hr 1 (by omega)
    have h2 : 0 ≤ rd p 2 ∧ rd p 2 < 10000 := hr 2 (by omega)
    have h3 : 0 ≤ rd p 3 ∧ rd p 3 < 10000 := hr 3 (by omega)
    refine ⟨4001, ?_⟩
    unfold laws_FnRates.f
    rw [c_big]
    simp only [Option.bind_some]
    rw [if_neg (by rw [decide_eq_true_iff]; exact hb), hpl _ (by omega)]
    simp only [Option.bind_some]
    rw [if_pos (by omega), if_pos (by omega), if_pos (by omega)]
    clear hr hpl
    obtain ⟨N, hN, hN0, hN1⟩ : ∃ N, Int.tmod (rd p 0) 90 = N ∧ 0 ≤ N ∧ N < 90 := ⟨_, rfl, by rw [Int.tmod_eq_emod_of_nonneg h0.1]; omega, by rw [Int.tmod_eq_emod_of_nonneg h0.1]; omega⟩
    obtain ⟨D, hD, hD0, hD1⟩ : ∃ D, wrap64 (1 + Int.tmod (rd p 1) 60) = D ∧ 1 ≤ D ∧ D ≤ 60 := ⟨1 + rd p 1 % 60, by rw [Int.tmod_eq_emod_of_nonneg h1.1, c_wrap (by omega) (by omega)], by omega, by omega⟩
    obtain ⟨n, hn, hn1⟩ : ∃ n : Nat, Int.tmod (rd p 3) 300 = (n : Int) ∧ n < 300 := ⟨(rd p 3 % 300).toNat, by rw [Int.tmod_eq_emod_of_nonneg h3.1]; omega, by omega⟩
    have hN := Aside0.mk hN
    have hD := Aside0.mk hD
    have hn := Aside0.mk hn
    rw [hN.out, hD.out, hn.out]
    obtain ⟨R, hR, hR0, hR1⟩ : ∃ R, Int.tmod (rd p 2) D = R ∧ 0 ≤ R ∧ R < D := ⟨_, rfl, by rw [Int.tmod_eq_emod_of_nonneg h2.1]; exact Int.emod_nonneg _ (by omega), by rw [Int.tmod_eq_emod_of_nonneg h2.1]; exact Int.emod_lt_of_pos _ (by omega)⟩
    have hR := Aside0.mk hR
    rw [hR.out, if_neg (by omega), if_pos (by omega), c_RunRate_impl (n : Int) N D R 4001 (by omega)]
    have hm : (min (n : Int) 1000).toNat = n := by omega
    have hmul0 : 0 ≤ (n : Int) * N := Int.mul_nonneg (by omega) hN0
    have hmul1 : (n : Int) * N ≤ 299 * 89 := Int.mul_le_mul (by omega) (by omega) hN0 (by omega)
    rw [hm, c_run_val hN0 (by omega) hD0 (by omega) n 0 R hR0 (by omega) (by omega) (by omega)]
    have hok : c_rateOk N D R = true := c_rateOk_iff.2 ⟨⟨hN0, by omega⟩, ⟨hD0, by omega⟩, hR0, by omega⟩
    have hq0 : 0 ≤ (R + (n : Int) * N) % D := Int.emod_nonneg _ (by omega)
    have hq1 : (R + (n : Int) * N) % D < D := Int.emod_lt_of_pos _ (by omega)
    have hok2 : c_rateOk N D ((R + (n : Int) * N) % D) = true := c_rateOk_iff.2 ⟨⟨hN0, by omega⟩, ⟨hD0, by omega⟩, hq0, by omega⟩
    have hd0 : 0 ≤ (R + (n : Int) * N) / D := Int.ediv_nonneg (by omega) (by omega)
    have hd1 : (R + (n : Int) * N) / D ≤ R + (n : Int) * N := Int.ediv_le_self D (by omega)
    simp only [Option.bind_some]
    rw [c_rate_impl, c_rate_impl, c_wrap (n := (n : Int) * N) (by omega) (by omega), c_wrap (n := R + (n : Int) * N) (by omega) (by omega), Int.tmod_eq_emod_of_nonneg (by omega), Int.tdiv_eq_ediv_of_nonneg (by omega), c_wrap (n := (R + (n : Int) * N) / D) (by omega) (by omega)]
    simp only [Option.bind_some]
    rw [if_pos hok, if_pos hok2, if_pos (Int.zero_add _), if_true]
    simp

end Go.Proofs.Ytdbogijlpplcgaa.Pure
