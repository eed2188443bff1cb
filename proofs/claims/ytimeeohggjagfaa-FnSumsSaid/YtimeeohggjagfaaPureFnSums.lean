/- FnSums: saturated sums do not care for order, stay within their bounds and are the sum where that is, for whatever is drawn. No condition (the law itself answers true of a draw beyond 2^20 bytes). -/
import Derived.Test.YtimeeohggjagfaaMFnSumsx2
namespace Go.Proofs.Ytimeeohggjagfaa.Pure
open Go.RowKit Go.Proofs.Ytimeeohggjagfaa.PFnSums Go.Proofs.YtimeeohggjagfaaW.PrintWords Go.Proofs.YtimeeohggjagfaaW.PrintLast
set_option linter.unusedVariables false
set_option linter.unusedSimpArgs false

/-! ### base -/
theorem c_wrap {n : Int} (h0 : -9223372036854775808 ≤ n) (h1 : n ≤ 9223372036854775807) : wrap64 n = n := by unfold wrap64; omega
theorem c_wf {n : Int} (h : (Lit.int .i64 n).wf = true) : -9223372036854775808 ≤ n ∧ n ≤ 9223372036854775807 := by
  simpa [Lit.wf, IntKind.min, IntKind.max, IntKind.signed, IntKind.bits] using h
theorem c_wf32 {n : Int} (h : (Lit.int .u32 n).wf = true) : 0 ≤ n ∧ n ≤ 4294967295 := by
  simpa [Lit.wf, IntKind.min, IntKind.max, IntKind.signed, IntKind.bits] using h
theorem c_up {k : Nat} (h : 0 < k) : ∃ m, k = m + 1 := ⟨k - 1, by omega⟩

/-! ### ints -/
theorem c_rd {l : List Int} {i : Nat} (h : i < l.length) : rd l (i : Int) = l[i]'h := by
  unfold rd
  simp [h]
theorem c_rd_app (pre : List Int) (a : Int) (l : List Int) : rd (pre ++ a :: l) (pre.length : Int) = a := by
  unfold rd
  simp
theorem c_inc {i n : Nat} (h : i < n) (hn : n ≤ 9223372036854775807) : wrap64 ((i : Int) + 1) = ((i + 1 : Nat) : Int) := by rw [c_wrap (by omega) (by omega)]; omega

/-! ### draw -/
structure CSt (l : List Int) (i : Int) : Prop where
  lo : 0 ≤ i
  hi : i ≤ l.length
  sz : l.length ≤ 4611686018427387904
theorem c_and_le (x : Int) : 0 ≤ Go.bits .and .i64 x 255 ∧ Go.bits .and .i64 x 255 ≤ 255 := by
  have h : (BitVec.ofInt 64 x &&& BitVec.ofInt 64 255).toNat ≤ 255 := by
    rw [BitVec.toNat_and]
    exact Nat.le_trans Nat.and_le_right (by decide)
  have e : Go.bits .and .i64 x 255 = IntKind.i64.wrap ((BitVec.ofInt 64 x &&& BitVec.ofInt 64 255).toNat : Int) := rfl
  rw [e, IntKind.wrap_i64]
  omega
theorem c_new (l : List Int) (hl : l.length ≤ 4611686018427387904) (d : Nat) : ∀ (h : Int) (i : Nat), 4000 - i = d → i ≤ l.length → ∃ h', ∀ k, d < k → spec_l01New.l0 k l h i = some (l, 0, h') := by
  induction d with
  | zero =>
    intro h i hd hi
    refine ⟨h, fun k hk => ?_⟩
    obtain ⟨k, rfl⟩ := c_up (k := k) (by omega)
    rw [spec_l01New.l0]
    by_cases h1 : (i : Int) < (l.length : Int)
    · rw [if_pos h1, if_neg (by omega)]
    · rw [if_neg h1]
  | succ d ih =>
    intro h i hd hi
    by_cases h1 : i < l.length
    · obtain ⟨h', hh⟩ := ih (Go.bits .and .i64 (wrap64 ((wrap64 ((wrap64 (h * 131)) + (wrap64 (rd l i)))) + 7)) 1073741823) (i + 1) (by omega) (by omega)
      refine ⟨h', fun k hk => ?_⟩
      obtain ⟨k, rfl⟩ := c_up (k := k) (by omega)
      rw [spec_l01New.l0, if_pos (by omega), if_pos (by omega), if_pos (by omega), c_inc (n := l.length) (by omega) (by omega)]
      exact hh k (by omega)
    · refine ⟨h, fun k hk => ?_⟩
      obtain ⟨k, rfl⟩ := c_up (k := k) (by omega)
      rw [spec_l01New.l0, if_neg (by omega)]
theorem c_l01New (l : List Int) (hl : l.length ≤ 4611686018427387904) : ∃ h, ∀ k, 4000 < k → spec_l01New.f k l = some (l, 0, h) := by
  obtain ⟨h, hh⟩ := c_new l hl 4000 (wrap64 (37101 + (l.length : Int))) 0 rfl (by omega)
  exact ⟨h, fun k hk => by unfold spec_l01New.f; exact hh k hk⟩
theorem c_byte {l : List Int} {i : Int} (h : Int) (s : CSt l i) : ∃ x i' h', spec_l01Byte.f l i h = some (x, i', h') ∧ 0 ≤ x ∧ x ≤ 255 ∧ CSt l i' := by
  unfold spec_l01Byte.f
  have hlo := s.lo
  have hhi := s.hi
  have hsz := s.sz
  by_cases h1 : i < (l.length : Int)
  · rw [if_pos h1, if_pos hlo]
    refine ⟨_, _, _, rfl, (c_and_le _).1, (c_and_le _).2, ?_⟩
    rw [c_wrap (n := i + 1) (by omega) (by omega)]
    exact ⟨by omega, by omega, hsz⟩
  · rw [if_neg h1]
    exact ⟨_, _, _, rfl, (c_and_le _).1, (c_and_le _).2, s⟩
theorem c_below {l : List Int} {i : Int} (h : Int) (s : CSt l i) (n : Int) : ∃ x i' h', spec_l01Below.f l i h n = some (x, i', h') ∧ 0 ≤ x ∧ (0 < n → x < n) ∧ (n ≤ 0 → x = 0) ∧ CSt l i' := by
  unfold spec_l01Below.f
  by_cases h0 : n ≤ 0
  · rw [if_pos h0]
    exact ⟨_, _, _, rfl, by omega, by omega, fun _ => rfl, s⟩
  · rw [if_neg h0]
    by_cases h1 : n ≤ 256
    · obtain ⟨x, i', h', e, hx0, hx1, s'⟩ := c_byte h s
      rw [if_pos h1, e]
      simp only [Option.bind_some]
      rw [if_neg (by omega), Int.tmod_eq_emod_of_nonneg hx0]
      exact ⟨_, _, _, rfl, Int.emod_nonneg _ (by omega), fun _ => Int.emod_lt_of_pos _ (by omega), by omega, s'⟩
    · obtain ⟨x, i1, h1', e1, hx0, hx1, s1⟩ := c_byte h s
      obtain ⟨y, i2, h2', e2, hy0, hy1, s2⟩ := c_byte h1' s1
      obtain ⟨z, i3, h3', e3, hz0, hz1, s3⟩ := c_byte h2' s2
      obtain ⟨w, i4, h4', e4, hw0, hw1, s4⟩ := c_byte h3' s3
      rw [if_neg h1, e1]
      simp only [Option.bind_some]
      rw [e2]
      simp only [Option.bind_some]
      rw [e3]
      simp only [Option.bind_some]
      rw [e4]
      simp only [Option.bind_some]
      rw [if_neg (by omega), c_wrap (n := x * 16777216) (by omega) (by omega), c_wrap (n := y * 65536) (by omega) (by omega), c_wrap (n := z * 256) (by omega) (by omega), c_wrap (n := x * 16777216 + y * 65536) (by omega) (by omega), c_wrap (n := x * 16777216 + y * 65536 + z * 256) (by omega) (by omega), c_wrap (by omega) (by omega), Int.tmod_eq_emod_of_nonneg (by omega)]
      exact ⟨_, _, _, rfl, Int.emod_nonneg _ (by omega), fun _ => Int.emod_lt_of_pos _ (by omega), by omega, s4⟩
theorem c_pick {l : List Int} {i : Int} (h : Int) (s : CSt l i) (xs : List Int) (hx : 0 < xs.length) : ∃ x i' h', spec_l01PickInt.f l i h xs = some (x, i', h') ∧ x ∈ xs ∧ CSt l i' := by
  unfold spec_l01PickInt.f
  obtain ⟨x, i', h', e, hx0, hx1, _, s'⟩ := c_below h s (xs.length : Int)
  rw [e]
  simp only [Option.bind_some]
  rw [if_pos hx0, if_pos (hx1 (by omega))]
  refine ⟨_, _, _, rfl, ?_, s'⟩
  obtain ⟨j, rfl⟩ := Int.eq_ofNat_of_zero_le hx0
  have := hx1 (by omega)
  rw [c_rd (by omega)]
  exact List.getElem_mem _

/-! ### places -/
theorem c_places_l {l : List Int} (d : Nat) : ∀ (acc : List Int) (j : Nat) (i h : Int), 12 - j = d → j ≤ 12 → acc.length = j → (∀ x ∈ acc, 0 ≤ x ∧ x < 10000) → CSt l i → ∃ p : List Int, p.length = 12 ∧ (∀ x ∈ p, 0 ≤ x ∧ x < 10000) ∧ ∀ k, d < k → spec_DrawPlaces.l0 k acc j l i h = some p := by
  induction d with
  | zero =>
    intro acc j i h hd hj hl hacc s
    refine ⟨acc, by omega, hacc, fun k hk => ?_⟩
    obtain ⟨k, rfl⟩ := c_up (k := k) (by omega)
    rw [spec_DrawPlaces.l0, if_neg (by omega)]
  | succ d ih =>
    intro acc j i h hd hj hl hacc s
    obtain ⟨x, i', h', e, hx0, hx1, _, s'⟩ := c_below h s 10000
    obtain ⟨p, hp1, hp2, hp3⟩ := ih (acc ++ [x]) (j + 1) i' h' (by omega) (by omega) (by rw [List.length_append, List.length_singleton]; omega) (fun y hy => by
      rcases List.mem_append.1 hy with hy | hy
      · exact hacc y hy
      · rw [List.mem_singleton] at hy
        subst hy
        exact ⟨hx0, hx1 (by omega)⟩) s'
    refine ⟨p, hp1, hp2, fun k hk => ?_⟩
    obtain ⟨k, rfl⟩ := c_up (k := k) (by omega)
    rw [spec_DrawPlaces.l0, if_pos (by omega), e]
    simp only [Option.bind_some]
    rw [if_pos (by omega), c_inc (n := 12) (by omega) (by omega)]
    exact hp3 k (by omega)
theorem c_DrawPlaces (l : List Int) (hl : l.length ≤ 4611686018427387904) : ∃ p : List Int, p.length = 12 ∧ (∀ j : Nat, j < 12 → 0 ≤ rd p j ∧ rd p j < 10000) ∧ ∀ k, 4000 < k → spec_DrawPlaces.f k l = some p := by
  obtain ⟨h, hh⟩ := c_l01New l hl
  obtain ⟨x, i', h', e, hx0, hx1, s'⟩ := c_byte (l := l) (i := 0) h ⟨by omega, by omega, hl⟩
  obtain ⟨p, hp1, hp2, hp3⟩ := c_places_l 12 [] 0 i' h' rfl (by omega) rfl (by simp) s'
  refine ⟨p, hp1, fun j hj => ?_, fun k hk => ?_⟩
  · rw [c_rd (by omega)]
    exact hp2 _ (List.getElem_mem _)
  · unfold spec_DrawPlaces.f
    rw [hh k hk]
    simp only [Option.bind_some]
    rw [e]
    simp only [Option.bind_some]
    exact hp3 k (by omega)
theorem c_big (l : List Int) : laws_big.f l = some (decide ((l.length : Int) > 1048576)) := rfl

/-! ### l03int -/
theorem c_l03Int {l : List Int} {i : Int} (h : Int) (s : CSt l i) : ∃ x i' h', spec_l03Int.f l i h = some (x, i', h') ∧ CSt l i' := by
  unfold spec_l03Int.f
  obtain ⟨x, i1, h1, e, _, _, _, s1⟩ := c_below h s 5
  rw [e]
  simp only [Option.bind_some]
  by_cases c0 : x = 0
  · obtain ⟨y, i2, h2, e2, _, s2⟩ := c_pick h1 s1 [0, 1, (-1), 1000000000000, (-1000000000000), 1000000000001, 9223372036854775807, (-9223372036854775808)] (by simp)
    rw [if_pos c0, e2]
    exact ⟨_, _, _, rfl, s2⟩
  · rw [if_neg c0]
    by_cases c1 : x = 1
    · obtain ⟨y, i2, h2, e2, _, _, _, s2⟩ := c_below h1 s1 2000001
      rw [if_pos c1, e2]
      exact ⟨_, _, _, rfl, s2⟩
    · obtain ⟨y, i2, h2, e2, _, _, _, s2⟩ := c_below h1 s1 20001
      rw [if_neg c1, e2]
      exact ⟨_, _, _, rfl, s2⟩
theorem c_DrawAddSat (l : List Int) (hl : l.length ≤ 4611686018427387904) : ∃ x : Int × Int, ∀ k, 4000 < k → spec_DrawAddSat.f k l = some x := by
  obtain ⟨h, hh⟩ := c_l01New l hl
  obtain ⟨x, i1, h1, e1, s1⟩ := c_l03Int (l := l) (i := 0) h ⟨by omega, by omega, hl⟩
  obtain ⟨y, i2, h2, e2, s2⟩ := c_l03Int h1 s1
  refine ⟨(x, y), fun k hk => ?_⟩
  unfold spec_DrawAddSat.f
  rw [hh k hk]
  simp only [Option.bind_some]
  rw [e1]
  simp only [Option.bind_some]
  rw [e2]
  rfl

/-! ### addsat -/
def c_bnd (a : Int) : Int := if a > 1000000000000 then 1000000000000 else if a < -1000000000000 then -1000000000000 else a
theorem c_bnd_le (a : Int) : -1000000000000 ≤ c_bnd a ∧ c_bnd a ≤ 1000000000000 := by unfold c_bnd; split <;> (try split) <;> omega
theorem c_bnd_id {a : Int} (h0 : -1000000000000 ≤ a) (h1 : a ≤ 1000000000000) : c_bnd a = a := by unfold c_bnd; rw [if_neg (by omega), if_neg (by omega)]
theorem c_l03Into (a : Int) : spec_l03Into.f a = some (c_bnd a) := by unfold spec_l03Into.f c_bnd; split <;> (try split) <;> rfl
theorem c_bounded (a : Int) : impl_bounded.f a = some (c_bnd a) := by
  unfold impl_bounded.f c_bnd mn mx
  congr 1
  (repeat' split) <;> omega

/-! ### addsat2 -/
def c_add (a b : Int) : Int := c_bnd (c_bnd a + c_bnd b)
theorem c_add_w (a b : Int) : wrap64 (c_bnd a + c_bnd b) = c_bnd a + c_bnd b := c_wrap (by have := c_bnd_le a; have := c_bnd_le b; omega) (by have := c_bnd_le a; have := c_bnd_le b; omega)
theorem c_sAddSat (a b : Int) : spec_AddSat.f a b = some (c_add a b) := by simp only [spec_AddSat.f, c_l03Into, Option.bind_some, c_add_w, c_add]
theorem c_iAddSat (a b : Int) : impl_AddSat.f a b = some (c_add a b) := by simp only [impl_AddSat.f, c_bounded, Option.bind_some, c_add_w, c_add]

/-! ### the law -/
theorem c_add_comm (x y : Int) : c_add x y = c_add y x := by unfold c_add; rw [Int.add_comm]
theorem FnSums : laws_FnSums.Pure := by
  intro l hl _ _
  unfold maxLen at hl
  by_cases hb : (l.length : Int) > 1048576
  · refine ⟨0, ?_⟩
    unfold laws_FnSums.f
    rw [c_big]
    simp only [Option.bind_some]
    rw [if_pos (decide_eq_true hb)]
  · obtain ⟨p, hp, hr, hpl⟩ := c_DrawPlaces l (by omega)
    obtain ⟨x, hx⟩ := c_DrawAddSat l (by omega)
    have h0 : 0 ≤ rd p 0 ∧ rd p 0 < 10000 := hr 0 (by omega)
    have h1 : 0 ≤ rd p 1 ∧ rd p 1 < 10000 := hr 1 (by omega)
    refine ⟨4001, ?_⟩
    unfold laws_FnSums.f
    rw [c_big]
    simp only [Option.bind_some]
    rw [if_neg (by rw [decide_eq_true_iff]; exact hb), hpl 4001 (by omega)]
    simp only [Option.bind_some]
    rw [if_pos (by omega), if_pos (by omega)]
    clear hr hpl
    generalize rd p 0 = a at *
    generalize rd p 1 = b at *
    have w1 : Aside0 (wrap64 (a - 5000) = a - 5000) := ⟨c_wrap (by omega) (by omega)⟩
    have w2 : Aside0 (wrap64 (b - 5000) = b - 5000) := ⟨c_wrap (by omega) (by omega)⟩
    have w3 : Aside0 (wrap64 ((a - 5000) * 100003) = (a - 5000) * 100003) := ⟨c_wrap (by omega) (by omega)⟩
    have w4 : Aside0 (wrap64 ((b - 5000) * 90001) = (b - 5000) * 90001) := ⟨c_wrap (by omega) (by omega)⟩
    have w5 : Aside0 (wrap64 ((a - 5000) * 100003 + (b - 5000) * 90001) = (a - 5000) * 100003 + (b - 5000) * 90001) := ⟨c_wrap (by omega) (by omega)⟩
    have e1 : c_add ((a - 5000) * 100003) ((b - 5000) * 90001) = (a - 5000) * 100003 + (b - 5000) * 90001 := by
      unfold c_add
      rw [c_bnd_id (a := (a - 5000) * 100003) (by omega) (by omega), c_bnd_id (a := (b - 5000) * 90001) (by omega) (by omega), c_bnd_id (by omega) (by omega)]
    have hbd := c_bnd_le (c_bnd x.1 + c_bnd x.2)
    have hb1 : -1000000000000 ≤ c_add x.1 x.2 ∧ c_add x.1 x.2 ≤ 1000000000000 := hbd
    have f1 : c_add 1000000000000 1 = 1000000000000 := by simp [c_add, c_bnd]
    have f2 : c_add (-1000000000000) (-1) = -1000000000000 := by simp [c_add, c_bnd]
    rw [w1.out, w2.out, w3.out, w4.out, w5.out]
    simp only [hx 4001 (by omega), c_iAddSat, c_sAddSat, Option.bind_some]
    rw [if_pos e1, if_pos (c_add_comm _ _), if_true, if_pos (c_add_comm _ _), if_pos hb1.1, if_pos hb1.2, if_pos f1, f2]
    rfl

end Go.Proofs.Ytimeeohggjagfaa.Pure
