/- RegionsOk of the program answers as the reference's RegionsOk, for every list of regions (the law itself answers true of one of more than 2^20). -/
import Derived.Test.YtimeeohggjagfaaPFnExactRegionsOkx0
import Derived.Test.YtimeeohggjagfaaPFnExactRegionsOkx1
import Derived.Test.YtimeeohggjagfaaPFnExactRegionsOkx2
import Derived.Test.YtimeeohggjagfaaPFnExactRegionsOkx3
namespace Go.Proofs.Ytimeeohggjagfaa.Pure
open Go.RowKit Go.Proofs.Ytimeeohggjagfaa.PFnExactRegionsOk Go.Proofs.YtimeeohggjagfaaW.PrintWords Go.Proofs.YtimeeohggjagfaaW.PrintLast
set_option linter.unusedVariables false
set_option linter.unusedSimpArgs false

/-! ### base -/
theorem c_wrap {n : Int} (h0 : -9223372036854775808 ≤ n) (h1 : n ≤ 9223372036854775807) : wrap64 n = n := by unfold wrap64; omega
theorem c_wf {n : Int} (h : (Lit.int .i64 n).wf = true) : -9223372036854775808 ≤ n ∧ n ≤ 9223372036854775807 := by
  simpa [Lit.wf, IntKind.min, IntKind.max, IntKind.signed, IntKind.bits] using h
theorem c_wf32 {n : Int} (h : (Lit.int .u32 n).wf = true) : 0 ≤ n ∧ n ≤ 4294967295 := by
  simpa [Lit.wf, IntKind.min, IntKind.max, IntKind.signed, IntKind.bits] using h
theorem c_up {k : Nat} (h : 0 < k) : ∃ m, k = m + 1 := ⟨k - 1, by omega⟩

/-! ### lists -/
theorem c_inc' {i n : Nat} (h : i < n) (hn : n ≤ 9223372036854775807) : wrap64 ((i : Int) + 1) = ((i + 1 : Nat) : Int) := by rw [c_wrap (by omega) (by omega)]; omega

/-! ### within -/
def c_in (n l h : Int) : Bool := decide (l ≤ n) && decide (n ≤ h)
theorem c_in_iff {n l h : Int} : c_in n l h = true ↔ l ≤ n ∧ n ≤ h := by simp [c_in]
theorem c_in_no {n l h : Int} : ¬ c_in n l h = true ↔ n < l ∨ h < n := by rw [c_in_iff]; omega

/-! ### region -/
theorem c_rdR {l : List S56} {i : Nat} (h : i < l.length) : rd_T56 l (i : Int) = l[i]'h := by
  unfold rd_T56
  simp [h]
def c_meet (a b : S56) : Bool := decide (a.f0 < wrap64 (b.f0 + b.f1)) && decide (b.f0 < wrap64 (a.f0 + a.f1))
def c_okR (x : S56) : Bool := c_in x.f0 0 63 && c_in x.f1 1 (64 - x.f0)
def c_regs (n : Nat) : List S56 → List S56 → Bool
  | _, [] => c_in n 1 4
  | pre, x :: l => c_okR x && !(pre.any (c_meet x)) && c_regs n (pre ++ [x]) l
def c_regions (l : List S56) : Bool := c_regs l.length [] l

/-! ### within_s -/
theorem c_l01In (n l h : Int) : spec_l01In.f n l h = some (c_in n l h) := by
  unfold spec_l01In.f c_in
  by_cases h0 : n ≥ l
  · rw [if_pos h0]; simp [h0]
  · rw [if_neg h0]; simp; omega

/-! ### regionsok_s -/
theorem c_regs_in_spec (l : List S56) (hl : l.length ≤ 1048576) (i : Nat) (hi : i ≤ l.length) (x : S56) (e : Nat) : ∀ (k j : Nat), i - j = e → j ≤ i →
    spec_RegionsOk.l1 (k + e + 1) l i j x.f0 x.f1 = if ((l.take i).drop j).any (c_meet x) = true then some false else spec_RegionsOk.l0 k l (wrap64 ((i : Int) + 1)) := by
  induction e with
  | zero =>
    intro k j he hj
    rw [spec_RegionsOk.l1, if_neg (by omega), List.drop_eq_nil_of_le (by rw [List.length_take]; omega)]
    rfl
  | succ e ih =>
    intro k j he hj
    have hlt : j < (l.take i).length := by rw [List.length_take]; omega
    have hd : (l.take i).drop j = l[j]'(by omega) :: (l.take i).drop (j + 1) := by
      rw [List.drop_eq_getElem_cons hlt, List.getElem_take]
    have e2 : k + (e + 1) + 1 = (k + e + 1) + 1 := by omega
    rw [e2, spec_RegionsOk.l1, if_pos (by omega), if_pos (by omega), if_pos (by omega), c_rdR (by omega), c_inc' (i := j) (n := i) (by omega) (by omega), ih k (j + 1) (by omega) (by omega), hd, List.any_cons]
    have hm : c_meet x (l[j]'(by omega)) = (decide (x.f0 < wrap64 ((l[j]'(by omega)).f0 + (l[j]'(by omega)).f1)) && decide ((l[j]'(by omega)).f0 < wrap64 (x.f0 + x.f1))) := rfl
    by_cases h1 : x.f0 < wrap64 ((l[j]'(by omega)).f0 + (l[j]'(by omega)).f1)
    · rw [if_pos h1]
      by_cases h2 : (l[j]'(by omega)).f0 < wrap64 (x.f0 + x.f1)
      · rw [if_pos h2, hm, decide_eq_true h1, decide_eq_true h2]
        rfl
      · rw [if_neg h2, hm, decide_eq_true h1, decide_eq_false h2]
        rfl
    · rw [if_neg h1, hm, decide_eq_false h1]
      rfl
theorem c_regs_spec (l : List S56) (hl : l.length ≤ 1048576) (d : Nat) : ∀ (k i : Nat), l.length - i = d → i ≤ l.length → d * (l.length + 5) < k → spec_RegionsOk.l0 k l i = some (c_regs l.length (l.take i) (l.drop i)) := by
  induction d with
  | zero =>
    intro k i hd hi hk
    obtain ⟨k, rfl⟩ := c_up (k := k) (by omega)
    rw [spec_RegionsOk.l0, if_neg (by omega), List.drop_eq_nil_of_le (by omega), c_l01In]
    rfl
  | succ d ih =>
    intro k i hd hi hk
    rw [Nat.succ_mul] at hk
    obtain ⟨k, rfl⟩ : ∃ m, k = (m + i + 1) + 1 + 1 := ⟨k - i - 3, by omega⟩
    have hdr : l.drop i = l[i]'(by omega) :: l.drop (i + 1) := List.drop_eq_getElem_cons (by omega)
    have htk : l.take (i + 1) = l.take i ++ [l[i]'(by omega)] := List.take_succ_eq_append_getElem (by omega)
    have hrec := ih k (i + 1) (by omega) (by omega) (by omega)
    have hin := c_regs_in_spec l hl i hi (l[i]'(by omega)) i k 0 (by omega) (by omega)
    rw [c_inc' (i := i) (n := l.length) (by omega) (by omega), hrec, htk, List.drop_zero] at hin
    rw [spec_RegionsOk.l0, if_pos (by omega), if_pos (by omega), c_rdR (by omega), hdr, c_regs]
    generalize l[i]'(by omega) = x at *
    rw [c_l01In, c_l01In]
    simp only [Option.bind_some]
    by_cases h1 : c_in x.f0 0 63 = true
    · have h1' := c_in_iff.1 h1
      rw [if_pos h1, c_wrap (by omega) (by omega)]
      by_cases h2 : c_in x.f1 1 (64 - x.f0) = true
      · rw [h2, spec_RegionsOk.j1, if_neg (by decide)]
        have e0 : ((0 : Nat) : Int) = 0 := rfl
        rw [e0] at hin
        rw [hin]
        have hok : c_okR x = true := by unfold c_okR; rw [h1, h2]; rfl
        rw [hok]
        cases (l.take i).any (c_meet x) <;> simp
      · have hok : c_okR x = false := by unfold c_okR; simp at h2; rw [h2]; simp
        simp at h2
        rw [h2, spec_RegionsOk.j1, if_pos (by decide), hok]
        rfl
    · have hok : c_okR x = false := by unfold c_okR; simp at h1; rw [h1]; rfl
      rw [if_neg h1, spec_RegionsOk.j1, if_pos rfl, hok]
      rfl
theorem c_RegionsOk_spec (l : List S56) (hl : l.length ≤ 1048576) (k : Nat) (hk : l.length * (l.length + 5) < k) : spec_RegionsOk.f k l = some (c_regions l) := by
  have := c_regs_spec l hl l.length k 0 (by omega) (by omega) hk
  simpa [spec_RegionsOk.f, c_regions] using this

/-! ### within_i -/
theorem c_within (n l h : Int) : impl_within.f n l h = some (c_in n l h) := by
  unfold impl_within.f c_in
  by_cases h0 : n ≥ l
  · rw [if_pos h0]; simp [h0]
  · rw [if_neg h0]; simp; omega

/-! ### regionsok_i -/
theorem c_regs_in_impl (l : List S56) (hl : l.length ≤ 1048576) (i : Nat) (hi : i ≤ l.length) (x : S56) (e : Nat) : ∀ (k j : Nat), i - j = e → j ≤ i →
    impl_RegionsOk.l1 (k + e + 1) l l (l.length : Int) i (l.take i) ((l.take i).length : Int) j x.f0 x.f1 = if ((l.take i).drop j).any (c_meet x) = true then some false else impl_RegionsOk.l0 k l l (l.length : Int) (wrap64 ((i : Int) + 1)) := by
  have hlen : (l.take i).length = i := by rw [List.length_take]; omega
  induction e with
  | zero =>
    intro k j he hj
    rw [impl_RegionsOk.l1, if_neg (by omega), List.drop_eq_nil_of_le (by omega)]
    rfl
  | succ e ih =>
    intro k j he hj
    have hlt : j < (l.take i).length := by omega
    have hd : (l.take i).drop j = (l.take i)[j]'hlt :: (l.take i).drop (j + 1) := List.drop_eq_getElem_cons hlt
    have e2 : k + (e + 1) + 1 = (k + e + 1) + 1 := by omega
    rw [e2, impl_RegionsOk.l1, if_pos (by omega), if_pos (by omega), if_pos (by omega), c_rdR hlt, c_inc' (i := j) (n := i) (by omega) (by omega), ih k (j + 1) (by omega) (by omega), hd, List.any_cons]
    generalize (l.take i)[j]'hlt = y
    have hm : c_meet x y = (decide (x.f0 < wrap64 (y.f0 + y.f1)) && decide (y.f0 < wrap64 (x.f0 + x.f1))) := rfl
    by_cases h1 : x.f0 < wrap64 (y.f0 + y.f1)
    · rw [if_pos h1]
      by_cases h2 : y.f0 < wrap64 (x.f0 + x.f1)
      · rw [if_pos h2, hm, decide_eq_true h1, decide_eq_true h2]
        rfl
      · rw [if_neg h2, hm, decide_eq_true h1, decide_eq_false h2]
        rfl
    · rw [if_neg h1, hm, decide_eq_false h1]
      rfl
theorem c_okR_iff (x : S56) : c_okR x = true ↔ 0 ≤ x.f0 ∧ 1 ≤ x.f1 ∧ x.f1 ≤ 64 ∧ x.f0 ≤ 64 - x.f1 := by
  unfold c_okR
  rw [Bool.and_eq_true, c_in_iff, c_in_iff]
  omega
theorem c_regs_impl (l : List S56) (hl : l.length ≤ 1048576) (d : Nat) : ∀ (k i : Nat), l.length - i = d → i ≤ l.length → d * (l.length + 5) < k → impl_RegionsOk.l0 k l l (l.length : Int) i = some (c_regs l.length (l.take i) (l.drop i)) := by
  induction d with
  | zero =>
    intro k i hd hi hk
    obtain ⟨k, rfl⟩ := c_up (k := k) (by omega)
    rw [impl_RegionsOk.l0, if_neg (by omega), List.drop_eq_nil_of_le (by omega), c_within]
    rfl
  | succ d ih =>
    intro k i hd hi hk
    rw [Nat.succ_mul] at hk
    obtain ⟨k, rfl⟩ : ∃ m, k = (m + i + 1) + 1 + 1 := ⟨k - i - 3, by omega⟩
    have hdr : l.drop i = l[i]'(by omega) :: l.drop (i + 1) := List.drop_eq_getElem_cons (by omega)
    have htk : l.take (i + 1) = l.take i ++ [l[i]'(by omega)] := List.take_succ_eq_append_getElem (by omega)
    have hrec := ih k (i + 1) (by omega) (by omega) (by omega)
    have hin := c_regs_in_impl l hl i hi (l[i]'(by omega)) i k 0 (by omega) (by omega)
    rw [c_inc' (i := i) (n := l.length) (by omega) (by omega), hrec, htk, List.drop_zero] at hin
    have e0 : ((0 : Nat) : Int) = 0 := rfl
    rw [e0] at hin
    rw [impl_RegionsOk.l0, if_pos (by omega), if_pos (by omega), if_pos (by omega), c_rdR (by omega), hdr, c_regs]
    generalize l[i]'(by omega) = x at *
    have hok := c_okR_iff x
    have yes : impl_RegionsOk.j1 (k + i + 1 + 1) l i l (l.length : Int) i true x.f0 x.f1 = some false := by rw [impl_RegionsOk.j1, if_pos rfl]
    by_cases h1 : x.f0 < 0
    · rw [if_pos h1, yes]
      have : c_okR x = false := by rw [Bool.eq_false_iff]; intro h; have := hok.1 h; omega
      rw [this]; rfl
    · rw [if_neg h1]
      by_cases h2 : x.f1 < 1
      · rw [if_pos h2, yes]
        have : c_okR x = false := by rw [Bool.eq_false_iff]; intro h; have := hok.1 h; omega
        rw [this]; rfl
      · rw [if_neg h2]
        by_cases h3 : x.f1 > 64
        · rw [if_pos h3, yes]
          have : c_okR x = false := by rw [Bool.eq_false_iff]; intro h; have := hok.1 h; omega
          rw [this]; rfl
        · rw [if_neg h3, c_wrap (n := 64 - x.f1) (by omega) (by omega)]
          by_cases h4 : x.f0 > 64 - x.f1
          · rw [decide_eq_true h4, yes]
            have : c_okR x = false := by rw [Bool.eq_false_iff]; intro h; have := hok.1 h; omega
            rw [this]; rfl
          · have hy : c_okR x = true := hok.2 (by omega)
            rw [decide_eq_false h4, impl_RegionsOk.j1, if_neg (by decide), if_pos (by omega), if_pos (by omega), Int.toNat_natCast]
            simp only [Option.bind_some]
            rw [hin, hy]
            cases (l.take i).any (c_meet x) <;> simp
theorem c_RegionsOk_impl (l : List S56) (hl : l.length ≤ 1048576) (k : Nat) (hk : l.length * (l.length + 5) < k) : impl_RegionsOk.f k l = some (c_regions l) := by
  have := c_regs_impl l hl l.length k 0 (by omega) (by omega) hk
  simpa [impl_RegionsOk.f, c_regions] using this

/-! ### region_to -/
def c_toR (x : S50) : S56 := ⟨x.f0, x.f1⟩
theorem c_szRegion (l : List S50) (hl : l.length ≤ 9223372036854775807) : laws_szRegionS.f l 1048576 = some (if l.length > 1048576 then -1 else 1048576 - (l.length : Int)) := by
  unfold laws_szRegionS.f
  rw [c_wrap (by omega) (by omega)]
  by_cases h : l.length > 1048576
  · rw [if_pos (by omega), if_pos h]
  · rw [if_neg (by omega), if_neg h]
theorem c_toRegion_l (rest : List S50) : ∀ (k : Nat) (pre : List S50), pre.length + rest.length ≤ 9223372036854775807 → rest.length < k → laws_toRegionS.l0 k (pre ++ rest) (pre.map c_toR ++ List.replicate rest.length z56) (pre.length : Int) = some ((pre ++ rest).map c_toR) := by
  induction rest with
  | nil =>
    intro k pre hb hk
    obtain ⟨k, rfl⟩ := c_up (k := k) (by omega)
    rw [laws_toRegionS.l0, if_neg (by simp)]
    simp
  | cons a rest ih =>
    intro k pre hb hk
    rw [List.length_cons] at hb hk
    obtain ⟨k, rfl⟩ := c_up (k := k) (by omega)
    have hr : rd_T50 (pre ++ a :: rest) (pre.length : Int) = a := by
      unfold rd_T50
      simp
    have hset : (pre.map c_toR ++ List.replicate (a :: rest).length z56).set ((pre.length : Int)).toNat (⟨a.f0, a.f1⟩ : S56) = (pre ++ [a]).map c_toR ++ List.replicate rest.length z56 := by
      rw [Int.toNat_natCast, List.set_append_right _ _ (by simp), List.length_map, Nat.sub_self, List.length_cons, List.replicate_succ, List.set_cons_zero, List.map_append, List.append_assoc]
      rfl
    have hw := Aside0.mk (c_inc' (i := pre.length) (n := pre.length + 1) (by omega) (by omega))
    have := ih k (pre ++ [a]) (by rw [List.length_append, List.length_singleton]; omega) (by omega)
    rw [List.length_append, List.length_singleton, List.append_assoc] at this
    rw [laws_toRegionS.l0, if_pos (by rw [List.length_append, List.length_cons]; omega), if_pos (by omega), hr, laws_toRegion.f]
    simp only [Option.bind_some]
    rw [if_pos (by rw [List.length_append, List.length_map, List.length_replicate, List.length_cons]; omega), hset, hw.out]
    exact this
theorem c_toRegionS (l : List S50) (hl : l.length ≤ 1048576) (k : Nat) (hk : l.length < k) : laws_toRegionS.f k l = some (l.map c_toR) := by
  unfold laws_toRegionS.f
  rw [if_pos (by omega), if_pos (by omega), Int.toNat_natCast]
  exact c_toRegion_l l k [] (by simp; omega) hk
theorem c_eqRegion_l (l : List S56) (hl : l.length ≤ 9223372036854775807) (d : Nat) : ∀ (k i : Nat), l.length - i = d → i ≤ l.length → d < k → laws_eqRegionS.l0 k l l i = some true := by
  induction d with
  | zero =>
    intro k i hd hi hk
    obtain ⟨k, rfl⟩ := c_up (k := k) (by omega)
    rw [laws_eqRegionS.l0, if_neg (by omega)]
  | succ d ih =>
    intro k i hd hi hk
    obtain ⟨k, rfl⟩ := c_up (k := k) (by omega)
    rw [laws_eqRegionS.l0, if_pos (by omega), if_pos (by omega), if_pos (by omega), laws_eqRegion.f, if_pos rfl, if_pos rfl, c_inc' (n := l.length) (by omega) hl]
    simp only [Option.bind_some, if_true]
    exact ih k (i + 1) (by omega) (by omega) (by omega)
theorem c_eqRegionS (l : List S56) (hl : l.length ≤ 9223372036854775807) (k : Nat) (hk : l.length < k) : laws_eqRegionS.f k l l = some true := by
  unfold laws_eqRegionS.f
  rw [if_pos rfl]
  exact c_eqRegion_l l hl l.length k 0 (by omega) (by omega) hk

/-! ### the law -/
theorem FnExactRegionsOk (l : List S50) (hl : l.length ≤ 9223372036854775807) : ∃ k, laws_FnExactRegionsOk.f k l = some true := by
  refine ⟨l.length * (l.length + 5) + l.length + 1, ?_⟩
  unfold laws_FnExactRegionsOk.f
  rw [c_szRegion l hl]
  simp only [Option.bind_some]
  by_cases h : l.length > 1048576
  · rw [if_pos h, if_pos (by omega)]
  · have hm : (l.map c_toR).length = l.length := List.length_map ..
    rw [if_neg h, if_neg (by omega), c_toRegionS l (by omega) _ (by omega)]
    simp only [Option.bind_some]
    rw [c_RegionsOk_spec _ (by omega) _ (by rw [hm]; omega), c_RegionsOk_impl _ (by omega) _ (by rw [hm]; omega)]
    simp only [Option.bind_some]
    rw [c_eqRegionS _ (by omega) _ (by rw [hm]; omega)]
    simp

end Go.Proofs.Ytimeeohggjagfaa.Pure
