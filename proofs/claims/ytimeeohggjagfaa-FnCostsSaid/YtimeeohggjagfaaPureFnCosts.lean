/- FnCosts: each instruction costs something, and has a name that is its own, for whatever is drawn. No condition (the law itself answers true of a draw beyond 2^20 bytes). -/
import Derived.Test.YtimeeohggjagfaaMFnCostsx2
namespace Go.Proofs.Ytimeeohggjagfaa.Pure
open Go.RowKit Go.Proofs.Ytimeeohggjagfaa.PFnCosts Go.Proofs.YtimeeohggjagfaaW.PrintWords Go.Proofs.YtimeeohggjagfaaW.PrintLast
set_option linter.unusedVariables false
set_option linter.unusedSimpArgs false

/-! ### base -/
theorem c_wrap {n : Int} (h0 : -9223372036854775808 ≤ n) (h1 : n ≤ 9223372036854775807) : wrap64 n = n := by unfold wrap64; omega
theorem c_wf {n : Int} (h : (Lit.int .i64 n).wf = true) : -9223372036854775808 ≤ n ∧ n ≤ 9223372036854775807 := by
  simpa [Lit.wf, IntKind.min, IntKind.max, IntKind.signed, IntKind.bits] using h
theorem c_wf32 {n : Int} (h : (Lit.int .u32 n).wf = true) : 0 ≤ n ∧ n ≤ 4294967295 := by
  simpa [Lit.wf, IntKind.min, IntKind.max, IntKind.signed, IntKind.bits] using h
theorem c_up {k : Nat} (h : 0 < k) : ∃ m, k = m + 1 := ⟨k - 1, by omega⟩

/-! ### ints -/
theorem c_rd {l : List Int} {i : Nat} (h : i < l.length) : rd l (i : Int) = l[i]'h := by
  unfold rd
  simp [h]
theorem c_rd_app (pre : List Int) (a : Int) (l : List Int) : rd (pre ++ a :: l) (pre.length : Int) = a := by
  unfold rd
  simp
theorem c_inc {i n : Nat} (h : i < n) (hn : n ≤ 9223372036854775807) : wrap64 ((i : Int) + 1) = ((i + 1 : Nat) : Int) := by rw [c_wrap (by omega) (by omega)]; omega

/-! ### draw -/
structure CSt (l : List Int) (i : Int) : Prop where
  lo : 0 ≤ i
  hi : i ≤ l.length
  sz : l.length ≤ 4611686018427387904
theorem c_and_le (x : Int) : 0 ≤ Go.bits .and .i64 x 255 ∧ Go.bits .and .i64 x 255 ≤ 255 := by
  have h : (BitVec.ofInt 64 x &&& BitVec.ofInt 64 255).toNat ≤ 255 := by
    rw [BitVec.toNat_and]
    exact Nat.le_trans Nat.and_le_right (by decide)
  have e : Go.bits .and .i64 x 255 = IntKind.i64.wrap ((BitVec.ofInt 64 x &&& BitVec.ofInt 64 255).toNat : Int) := rfl
  rw [e, IntKind.wrap_i64]
  omega
theorem c_new (l : List Int) (hl : l.length ≤ 4611686018427387904) (d : Nat) : ∀ (h : Int) (i : Nat), 4000 - i = d → i ≤ l.length → ∃ h', ∀ k, d < k → spec_l01New.l0 k l h i = some (l, 0, h') := by
  induction d with
  | zero =>
    intro h i hd hi
    refine ⟨h, fun k hk => ?_⟩
    obtain ⟨k, rfl⟩ := c_up (k := k) (by omega)
    rw [spec_l01New.l0]
    by_cases h1 : (i : Int) < (l.length : Int)
    · rw [if_pos h1, if_neg (by omega)]
    · rw [if_neg h1]
  | succ d ih =>
    intro h i hd hi
    by_cases h1 : i < l.length
    · obtain ⟨h', hh⟩ := ih (Go.bits .and .i64 (wrap64 ((wrap64 ((wrap64 (h * 131)) + (wrap64 (rd l i)))) + 7)) 1073741823) (i + 1) (by omega) (by omega)
      refine ⟨h', fun k hk => ?_⟩
      obtain ⟨k, rfl⟩ := c_up (k := k) (by omega)
      rw [spec_l01New.l0, if_pos (by omega), if_pos (by omega), if_pos (by omega), c_inc (n := l.length) (by omega) (by omega)]
      exact hh k (by omega)
    · refine ⟨h, fun k hk => ?_⟩
      obtain ⟨k, rfl⟩ := c_up (k := k) (by omega)
      rw [spec_l01New.l0, if_neg (by omega)]
theorem c_l01New (l : List Int) (hl : l.length ≤ 4611686018427387904) : ∃ h, ∀ k, 4000 < k → spec_l01New.f k l = some (l, 0, h) := by
  obtain ⟨h, hh⟩ := c_new l hl 4000 (wrap64 (37101 + (l.length : Int))) 0 rfl (by omega)
  exact ⟨h, fun k hk => by unfold spec_l01New.f; exact hh k hk⟩
theorem c_byte {l : List Int} {i : Int} (h : Int) (s : CSt l i) : ∃ x i' h', spec_l01Byte.f l i h = some (x, i', h') ∧ 0 ≤ x ∧ x ≤ 255 ∧ CSt l i' := by
  unfold spec_l01Byte.f
  have hlo := s.lo
  have hhi := s.hi
  have hsz := s.sz
  by_cases h1 : i < (l.length : Int)
  · rw [if_pos h1, if_pos hlo]
    refine ⟨_, _, _, rfl, (c_and_le _).1, (c_and_le _).2, ?_⟩
    rw [c_wrap (n := i + 1) (by omega) (by omega)]
    exact ⟨by omega, by omega, hsz⟩
  · rw [if_neg h1]
    exact ⟨_, _, _, rfl, (c_and_le _).1, (c_and_le _).2, s⟩
theorem c_below {l : List Int} {i : Int} (h : Int) (s : CSt l i) (n : Int) : ∃ x i' h', spec_l01Below.f l i h n = some (x, i', h') ∧ 0 ≤ x ∧ (0 < n → x < n) ∧ (n ≤ 0 → x = 0) ∧ CSt l i' := by
  unfold spec_l01Below.f
  by_cases h0 : n ≤ 0
  · rw [if_pos h0]
    exact ⟨_, _, _, rfl, by omega, by omega, fun _ => rfl, s⟩
  · rw [if_neg h0]
    by_cases h1 : n ≤ 256
    · obtain ⟨x, i', h', e, hx0, hx1, s'⟩ := c_byte h s
      rw [if_pos h1, e]
      simp only [Option.bind_some]
      rw [if_neg (by omega), Int.tmod_eq_emod_of_nonneg hx0]
      exact ⟨_, _, _, rfl, Int.emod_nonneg _ (by omega), fun _ => Int.emod_lt_of_pos _ (by omega), by omega, s'⟩
    · obtain ⟨x, i1, h1', e1, hx0, hx1, s1⟩ := c_byte h s
      obtain ⟨y, i2, h2', e2, hy0, hy1, s2⟩ := c_byte h1' s1
      obtain ⟨z, i3, h3', e3, hz0, hz1, s3⟩ := c_byte h2' s2
      obtain ⟨w, i4, h4', e4, hw0, hw1, s4⟩ := c_byte h3' s3
      rw [if_neg h1, e1]
      simp only [Option.bind_some]
      rw [e2]
      simp only [Option.bind_some]
      rw [e3]
      simp only [Option.bind_some]
      rw [e4]
      simp only [Option.bind_some]
      rw [if_neg (by omega), c_wrap (n := x * 16777216) (by omega) (by omega), c_wrap (n := y * 65536) (by omega) (by omega), c_wrap (n := z * 256) (by omega) (by omega), c_wrap (n := x * 16777216 + y * 65536) (by omega) (by omega), c_wrap (n := x * 16777216 + y * 65536 + z * 256) (by omega) (by omega), c_wrap (by omega) (by omega), Int.tmod_eq_emod_of_nonneg (by omega)]
      exact ⟨_, _, _, rfl, Int.emod_nonneg _ (by omega), fun _ => Int.emod_lt_of_pos _ (by omega), by omega, s4⟩

/-! ### places -/
theorem c_places_l {l : List Int} (d : Nat) : ∀ (acc : List Int) (j : Nat) (i h : Int), 12 - j = d → j ≤ 12 → acc.length = j → (∀ x ∈ acc, 0 ≤ x ∧ x < 10000) → CSt l i → ∃ p : List Int, p.length = 12 ∧ (∀ x ∈ p, 0 ≤ x ∧ x < 10000) ∧ ∀ k, d < k → spec_DrawPlaces.l0 k acc j l i h = some p := by
  induction d with
  | zero =>
    intro acc j i h hd hj hl hacc s
    refine ⟨acc, by omega, hacc, fun k hk => ?_⟩
    obtain ⟨k, rfl⟩ := c_up (k := k) (by omega)
    rw [spec_DrawPlaces.l0, if_neg (by omega)]
  | succ d ih =>
    intro acc j i h hd hj hl hacc s
    obtain ⟨x, i', h', e, hx0, hx1, _, s'⟩ := c_below h s 10000
    obtain ⟨p, hp1, hp2, hp3⟩ := ih (acc ++ [x]) (j + 1) i' h' (by omega) (by omega) (by rw [List.length_append, List.length_singleton]; omega) (fun y hy => by
      rcases List.mem_append.1 hy with hy | hy
      · exact hacc y hy
      · rw [List.mem_singleton] at hy
        subst hy
        exact ⟨hx0, hx1 (by omega)⟩) s'
    refine ⟨p, hp1, hp2, fun k hk => ?_⟩
    obtain ⟨k, rfl⟩ := c_up (k := k) (by omega)
    rw [spec_DrawPlaces.l0, if_pos (by omega), e]
    simp only [Option.bind_some]
    rw [if_pos (by omega), c_inc (n := 12) (by omega) (by omega)]
    exact hp3 k (by omega)
theorem c_DrawPlaces (l : List Int) (hl : l.length ≤ 4611686018427387904) : ∃ p : List Int, p.length = 12 ∧ (∀ j : Nat, j < 12 → 0 ≤ rd p j ∧ rd p j < 10000) ∧ ∀ k, 4000 < k → spec_DrawPlaces.f k l = some p := by
  obtain ⟨h, hh⟩ := c_l01New l hl
  obtain ⟨x, i', h', e, hx0, hx1, s'⟩ := c_byte (l := l) (i := 0) h ⟨by omega, by omega, hl⟩
  obtain ⟨p, hp1, hp2, hp3⟩ := c_places_l 12 [] 0 i' h' rfl (by omega) rfl (by simp) s'
  refine ⟨p, hp1, fun j hj => ?_, fun k hk => ?_⟩
  · rw [c_rd (by omega)]
    exact hp2 _ (List.getElem_mem _)
  · unfold spec_DrawPlaces.f
    rw [hh k hk]
    simp only [Option.bind_some]
    rw [e]
    simp only [Option.bind_some]
    exact hp3 k (by omega)
theorem c_big (l : List Int) : laws_big.f l = some (decide ((l.length : Int) > 1048576)) := rfl

/-! ### within -/
def c_in (n l h : Int) : Bool := decide (l ≤ n) && decide (n ≤ h)
theorem c_in_iff {n l h : Int} : c_in n l h = true ↔ l ≤ n ∧ n ≤ h := by simp [c_in]
theorem c_in_no {n l h : Int} : ¬ c_in n l h = true ↔ n < l ∨ h < n := by rw [c_in_iff]; omega

/-! ### within_s -/
theorem c_l01In (n l h : Int) : spec_l01In.f n l h = some (c_in n l h) := by
  unfold spec_l01In.f c_in
  by_cases h0 : n ≥ l
  · rw [if_pos h0]; simp [h0]
  · rw [if_neg h0]; simp; omega

/-! ### within_i -/
theorem c_within (n l h : Int) : impl_within.f n l h = some (c_in n l h) := by
  unfold impl_within.f c_in
  by_cases h0 : n ≥ l
  · rw [if_pos h0]; simp [h0]
  · rw [if_neg h0]; simp; omega

/-! ### nameof -/
theorem c_names : spec_l05Names.f = impl_opNames.f := rfl
theorem c_names_some : ∃ l, impl_opNames.f = some l ∧ l.length = 18 := ⟨_, rfl, rfl⟩
theorem c_nameOf_same (a : Int) : spec_NameOf.f a = impl_NameOf.f a := by
  simp only [spec_NameOf.f, impl_NameOf.f, impl_hasOp.f, c_l01In, c_within, c_names, Option.bind_some]
theorem c_nameOf_some (a : Int) : ∃ r, impl_NameOf.f a = some r := by
  obtain ⟨l, hl, hn⟩ := c_names_some
  simp only [impl_NameOf.f, impl_hasOp.f, c_within, Option.bind_some, hl]
  by_cases h : c_in a 0 17 = true
  · rw [if_pos h]
    rw [c_in_iff] at h
    rw [if_pos h.1, if_pos (by omega)]
    exact ⟨_, rfl⟩
  · rw [if_neg h]
    exact ⟨_, rfl⟩

/-! ### drop -/
theorem c_bt (s : ByteArray) (i : Nat) (h : i < s.size) : bt s (i : Int) = ((s[i]'h).toNat : Int) := by
  unfold bt
  simp [h]
theorem c_drop (s : ByteArray) (i : Nat) (h : i < s.size) : ∃ b : UInt8, bt s (i : Int) = (b.toNat : Int) ∧ s.data.toList.drop i = b :: s.data.toList.drop (i + 1) := by
  refine ⟨s[i]'h, c_bt s i h, ?_⟩
  rw [List.drop_eq_getElem_cons (by rw [data_length]; exact h)]
  rfl
theorem c_drop_end (s : ByteArray) (i : Nat) (h : s.size ≤ i) : s.data.toList.drop i = [] := List.drop_eq_nil_of_le (by rw [data_length]; exact h)

/-! ### bytes -/
theorem c_toList (s : ByteArray) : s.toList = s.data.toList := ByteArray.toList_eq s
theorem c_extract (s : ByteArray) (a b : Nat) : (s.extract a b).data.toList = (s.data.toList.take b).drop a := by
  simp [ByteArray.data_extract, Array.toList_extract, List.extract_eq_take_drop, List.drop_take]
theorem c_ext {s t : ByteArray} (h : s.data.toList = t.data.toList) : s = t := by
  cases s; cases t; congr; exact Array.toList_inj.1 h

/-! ### names -/
def c_namesL : List ByteArray := (impl_opNames.f).getD []
theorem c_namesL_eq : impl_opNames.f = some c_namesL := rfl
theorem c_namesL_len : c_namesL.length = 18 := rfl
def c_nm : List (List UInt8) := c_namesL.map fun x => x.data.toList
theorem c_nm_len : c_nm.length = 18 := rfl
theorem c_nm_inj : ∀ i j : Fin 18, (c_nm.getD i.val [] == c_nm.getD j.val []) = (i.val == j.val) := by decide +kernel
theorem c_nm_ne : ∀ i : Fin 18, c_nm.getD i.val [] ≠ [] := by decide +kernel
def c_name (a : Int) : ByteArray := if c_in a 0 17 = true then rdOf ByteArray.empty c_namesL a else (⟨#[]⟩ : ByteArray)
theorem c_nameOf (a : Int) : impl_NameOf.f a = some (c_name a) := by
  unfold c_name
  simp only [impl_NameOf.f, impl_hasOp.f, c_within, Option.bind_some, c_namesL_eq]
  by_cases h : c_in a 0 17 = true
  · have h' := c_in_iff.1 h
    rw [if_pos h, if_pos h, if_pos h'.1, if_pos (by rw [c_namesL_len]; omega)]
  · rw [if_neg h, if_neg h]
theorem c_name_val {a : Nat} (h : a < 18) : (c_name (a : Int)).toList = c_nm.getD a [] := by
  unfold c_name
  rw [if_pos (c_in_iff.2 ⟨by omega, by omega⟩), c_toList]
  unfold rdOf c_nm
  rw [Int.toNat_natCast, List.getD_eq_getElem?_getD, List.getD_eq_getElem?_getD, List.getElem?_map, List.getElem?_eq_getElem (by rw [c_namesL_len]; omega)]
  rfl

/-! ### costof -/
def c_cost (a : Int) : Int := if a = 2 then 2 else if a = 3 then 2 else if a = 15 then 2 else if a = 16 then 2 else if a = 6 then 3 else if a = 7 then 3 else if a = 13 then 4 else if a = 14 then 4 else 1
theorem c_cost_spec (k : Nat) (a : Int) : spec_CostOf.f (k + 2) a = some (c_cost a) := by
  unfold spec_CostOf.f c_cost
  simp only [spec_CostOf.j0, spec_CostOf.j1]
  by_cases h2 : a = 2
  · subst h2; simp
  by_cases h3 : a = 3
  · subst h3; simp
  by_cases h15 : a = 15
  · subst h15; simp
  by_cases h16 : a = 16
  · subst h16; simp
  by_cases h6 : a = 6
  · subst h6; simp
  by_cases h7 : a = 7
  · subst h7; simp
  simp [h2, h3, h15, h16, h6, h7]
  split <;> (try split) <;> rfl
theorem c_cost_impl (k : Nat) (a : Int) : impl_CostOf.f (k + 2) a = some (c_cost a) := by
  unfold impl_CostOf.f c_cost
  simp only [impl_CostOf.j0, impl_CostOf.j1]
  by_cases h2 : a = 2
  · subst h2; simp
  by_cases h3 : a = 3
  · subst h3; simp
  by_cases h15 : a = 15
  · subst h15; simp
  by_cases h16 : a = 16
  · subst h16; simp
  by_cases h6 : a = 6
  · subst h6; simp
  by_cases h7 : a = 7
  · subst h7; simp
  simp [h2, h3, h15, h16, h6, h7]
  split <;> (try split) <;> rfl

/-! ### the law -/
theorem c_cost_le (a : Int) : 1 ≤ c_cost a ∧ c_cost a ≤ 4 := by
  unfold c_cost
  (repeat' split) <;> omega
theorem FnCosts : laws_FnCosts.Pure := by
  intro l hl _ _
  unfold maxLen at hl
  by_cases hb : (l.length : Int) > 1048576
  · refine ⟨0, ?_⟩
    unfold laws_FnCosts.f
    rw [c_big]
    simp only [Option.bind_some]
    rw [if_pos (decide_eq_true hb)]
  · obtain ⟨p, hp, hr, hpl⟩ := c_DrawPlaces l (by omega)
    have h0 : 0 ≤ rd p 0 ∧ rd p 0 < 10000 := hr 0 (by omega)
    have h1 : 0 ≤ rd p 1 ∧ rd p 1 < 10000 := hr 1 (by omega)
    have h2 : 0 ≤ rd p 2 ∧ rd p 2 < 10000 := hr 2 (by omega)
    refine ⟨3999 + 2, ?_⟩
    unfold laws_FnCosts.f
    rw [c_big]
    simp only [Option.bind_some]
    rw [if_neg (by rw [decide_eq_true_iff]; exact hb), hpl _ (by omega)]
    simp only [Option.bind_some]
    rw [if_pos (by omega), if_pos (by omega), if_pos (by omega), Int.tmod_eq_emod_of_nonneg h0.1, Int.tmod_eq_emod_of_nonneg h1.1, Int.tmod_eq_emod_of_nonneg h2.1]
    clear hr hpl
    obtain ⟨a, ha, ha2⟩ : ∃ a : Nat, rd p 0 % 18 = (a : Int) ∧ a < 18 := ⟨(rd p 0 % 18).toNat, by omega, by omega⟩
    obtain ⟨b, hb', hb2⟩ : ∃ b : Nat, rd p 1 % 18 = (b : Int) ∧ b < 18 := ⟨(rd p 1 % 18).toNat, by omega, by omega⟩
    rw [ha, hb']
    have q1 := c_cost_le (a : Int)
    have e3 : (c_name 18).toList = [] := by
      rw [c_toList]
      rfl
    have hab : ((((a : Int)) == ((b : Int))) == ((c_name a).toList == (c_name b).toList)) = true := by
      rw [c_name_val ha2, c_name_val hb2]
      have := c_nm_inj ⟨a, ha2⟩ ⟨b, hb2⟩
      simp only at this
      rw [this]
      by_cases h : a = b
      · subst h; simp
      · have h' : ¬ (a : Int) = (b : Int) := by omega
        rw [beq_eq_false_iff_ne.2 h, beq_eq_false_iff_ne.2 h']
        rfl
    have hne : ¬ (c_name (a : Int)).toList = [] := by
      rw [c_name_val ha2]
      exact c_nm_ne ⟨a, ha2⟩
    simp only [c_cost_impl, c_cost_spec, c_nameOf, c_nameOf_same, Option.bind_some]
    rw [if_pos q1.1, if_pos q1.2, if_true, if_true, if_pos hab, if_neg hne, e3]
    rfl

end Go.Proofs.Ytimeeohggjagfaa.Pure
