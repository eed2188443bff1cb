/- FnRegions: the regions' test, the cells of a region and the clearing of one answer as the reference's on every draw. No condition (the law itself answers true of a draw beyond 2^20 bytes). -/
import Derived.Test.YteehopjgmgelnaaMFnRegionsx7
namespace Go.Proofs.Yteehopjgmgelnaa.Pure
open Go.RowKit Go.Proofs.Yteehopjgmgelnaa.PFnRegions Go.Proofs.YteehopjgmgelnaaW.PrintWords Go.Proofs.YteehopjgmgelnaaW.PrintLast
set_option linter.unusedVariables false
set_option linter.unusedSimpArgs false

/-! ### base -/
theorem c_wrap {n : Int} (h0 : -9223372036854775808 ≤ n) (h1 : n ≤ 9223372036854775807) : wrap64 n = n := by unfold wrap64; omega
theorem c_wf {n : Int} (h : (Lit.int .i64 n).wf = true) : -9223372036854775808 ≤ n ∧ n ≤ 9223372036854775807 := by
  simpa [Lit.wf, IntKind.min, IntKind.max, IntKind.signed, IntKind.bits] using h
theorem c_wf32 {n : Int} (h : (Lit.int .u32 n).wf = true) : 0 ≤ n ∧ n ≤ 4294967295 := by
  simpa [Lit.wf, IntKind.min, IntKind.max, IntKind.signed, IntKind.bits] using h
theorem c_up {k : Nat} (h : 0 < k) : ∃ m, k = m + 1 := ⟨k - 1, by omega⟩

/-! ### ints -/
theorem c_rd {l : List Int} {i : Nat} (h : i < l.length) : rd l (i : Int) = l[i]'h := by
  unfold rd
  simp [h]
theorem c_rd_app (pre : List Int) (a : Int) (l : List Int) : rd (pre ++ a :: l) (pre.length : Int) = a := by
  unfold rd
  simp
theorem c_inc {i n : Nat} (h : i < n) (hn : n ≤ 9223372036854775807) : wrap64 ((i : Int) + 1) = ((i + 1 : Nat) : Int) := by rw [c_wrap (by omega) (by omega)]; omega

/-! ### draw -/
structure CSt (l : List Int) (i : Int) : Prop where
  lo : 0 ≤ i
  hi : i ≤ l.length
  sz : l.length ≤ 4611686018427387904
theorem c_and_le (x : Int) : 0 ≤ Go.bits .and .i64 x 255 ∧ Go.bits .and .i64 x 255 ≤ 255 := by
  have h : (BitVec.ofInt 64 x &&& BitVec.ofInt 64 255).toNat ≤ 255 := by
    rw [BitVec.toNat_and]
    exact Nat.le_trans Nat.and_le_right (by decide)
  have e : Go.bits .and .i64 x 255 = IntKind.i64.wrap ((BitVec.ofInt 64 x &&& BitVec.ofInt 64 255).toNat : Int) := rfl
  rw [e, IntKind.wrap_i64]
  omega
theorem c_new (l : List Int) (hl : l.length ≤ 4611686018427387904) (d : Nat) : ∀ (h : Int) (i : Nat), 4000 - i = d → i ≤ l.length → ∃ h', ∀ k, d < k → spec_l01New.l0 k l h i = some (l, 0, h') := by
  induction d with
  | zero =>
    intro h i hd hi
    refine ⟨h, fun k hk => ?_⟩
    obtain ⟨k, rfl⟩ := c_up (k := k) (by omega)
    rw [spec_l01New.l0]
    by_cases h1 : (i : Int) < (l.length : Int)
    · rw [if_pos h1, if_neg (by omega)]
    · rw [if_neg h1]
  | succ d ih =>
    intro h i hd hi
    by_cases h1 : i < l.length
    · obtain ⟨h', hh⟩ := ih (Go.bits .and .i64 (wrap64 ((wrap64 ((wrap64 (h * 131)) + (wrap64 (rd l i)))) + 7)) 1073741823) (i + 1) (by omega) (by omega)
      refine ⟨h', fun k hk => ?_⟩
      obtain ⟨k, rfl⟩ := c_up (k := k) (by omega)
      rw [spec_l01New.l0, if_pos (by omega), if_pos (by omega), if_pos (by omega), c_inc (n := l.length) (by omega) (by omega)]
      exact hh k (by omega)
    · refine ⟨h, fun k hk => ?_⟩
      obtain ⟨k, rfl⟩ := c_up (k := k) (by omega)
      rw [spec_l01New.l0, if_neg (by omega)]
theorem c_l01New (l : List Int) (hl : l.length ≤ 4611686018427387904) : ∃ h, ∀ k, 4000 < k → spec_l01New.f k l = some (l, 0, h) := by
  obtain ⟨h, hh⟩ := c_new l hl 4000 (wrap64 (37101 + (l.length : Int))) 0 rfl (by omega)
  exact ⟨h, fun k hk => by unfold spec_l01New.f; exact hh k hk⟩
theorem c_byte {l : List Int} {i : Int} (h : Int) (s : CSt l i) : ∃ x i' h', spec_l01Byte.f l i h = some (x, i', h') ∧ 0 ≤ x ∧ x ≤ 255 ∧ CSt l i' := by
  unfold spec_l01Byte.f
  have hlo := s.lo
  have hhi := s.hi
  have hsz := s.sz
  by_cases h1 : i < (l.length : Int)
  · rw [if_pos h1, if_pos hlo]
    refine ⟨_, _, _, rfl, (c_and_le _).1, (c_and_le _).2, ?_⟩
    rw [c_wrap (n := i + 1) (by omega) (by omega)]
    exact ⟨by omega, by omega, hsz⟩
  · rw [if_neg h1]
    exact ⟨_, _, _, rfl, (c_and_le _).1, (c_and_le _).2, s⟩
theorem c_below {l : List Int} {i : Int} (h : Int) (s : CSt l i) (n : Int) : ∃ x i' h', spec_l01Below.f l i h n = some (x, i', h') ∧ 0 ≤ x ∧ (0 < n → x < n) ∧ (n ≤ 0 → x = 0) ∧ CSt l i' := by
  unfold spec_l01Below.f
  by_cases h0 : n ≤ 0
  · rw [if_pos h0]
    exact ⟨_, _, _, rfl, by omega, by omega, fun _ => rfl, s⟩
  · rw [if_neg h0]
    by_cases h1 : n ≤ 256
    · obtain ⟨x, i', h', e, hx0, hx1, s'⟩ := c_byte h s
      rw [if_pos h1, e]
      simp only [Option.bind_some]
      rw [if_neg (by omega), Int.tmod_eq_emod_of_nonneg hx0]
      exact ⟨_, _, _, rfl, Int.emod_nonneg _ (by omega), fun _ => Int.emod_lt_of_pos _ (by omega), by omega, s'⟩
    · obtain ⟨x, i1, h1', e1, hx0, hx1, s1⟩ := c_byte h s
      obtain ⟨y, i2, h2', e2, hy0, hy1, s2⟩ := c_byte h1' s1
      obtain ⟨z, i3, h3', e3, hz0, hz1, s3⟩ := c_byte h2' s2
      obtain ⟨w, i4, h4', e4, hw0, hw1, s4⟩ := c_byte h3' s3
      rw [if_neg h1, e1]
      simp only [Option.bind_some]
      rw [e2]
      simp only [Option.bind_some]
      rw [e3]
      simp only [Option.bind_some]
      rw [e4]
      simp only [Option.bind_some]
      rw [if_neg (by omega), c_wrap (n := x * 16777216) (by omega) (by omega), c_wrap (n := y * 65536) (by omega) (by omega), c_wrap (n := z * 256) (by omega) (by omega), c_wrap (n := x * 16777216 + y * 65536) (by omega) (by omega), c_wrap (n := x * 16777216 + y * 65536 + z * 256) (by omega) (by omega), c_wrap (by omega) (by omega), Int.tmod_eq_emod_of_nonneg (by omega)]
      exact ⟨_, _, _, rfl, Int.emod_nonneg _ (by omega), fun _ => Int.emod_lt_of_pos _ (by omega), by omega, s4⟩
theorem c_pick {l : List Int} {i : Int} (h : Int) (s : CSt l i) (xs : List Int) (hx : 0 < xs.length) : ∃ x i' h', spec_l01PickInt.f l i h xs = some (x, i', h') ∧ x ∈ xs ∧ CSt l i' := by
  unfold spec_l01PickInt.f
  obtain ⟨x, i', h', e, hx0, hx1, _, s'⟩ := c_below h s (xs.length : Int)
  rw [e]
  simp only [Option.bind_some]
  rw [if_pos hx0, if_pos (hx1 (by omega))]
  refine ⟨_, _, _, rfl, ?_, s'⟩
  obtain ⟨j, rfl⟩ := Int.eq_ofNat_of_zero_le hx0
  have := hx1 (by omega)
  rw [c_rd (by omega)]
  exact List.getElem_mem _

/-! ### lists -/
theorem c_inc' {i n : Nat} (h : i < n) (hn : n ≤ 9223372036854775807) : wrap64 ((i : Int) + 1) = ((i + 1 : Nat) : Int) := by rw [c_wrap (by omega) (by omega)]; omega

/-! ### within -/
def c_in (n l h : Int) : Bool := decide (l ≤ n) && decide (n ≤ h)
theorem c_in_iff {n l h : Int} : c_in n l h = true ↔ l ≤ n ∧ n ≤ h := by simp [c_in]
theorem c_in_no {n l h : Int} : ¬ c_in n l h = true ↔ n < l ∨ h < n := by rw [c_in_iff]; omega

/-! ### region -/
theorem c_rdR {l : List S32} {i : Nat} (h : i < l.length) : rd_T32 l (i : Int) = l[i]'h := by
  unfold rd_T32
  simp [h]
def c_meet (a b : S32) : Bool := decide (a.f0 < wrap64 (b.f0 + b.f1)) && decide (b.f0 < wrap64 (a.f0 + a.f1))
def c_okR (x : S32) : Bool := c_in x.f0 0 63 && c_in x.f1 1 (64 - x.f0)
def c_regs (n : Nat) : List S32 → List S32 → Bool
  | _, [] => c_in n 1 4
  | pre, x :: l => c_okR x && !(pre.any (c_meet x)) && c_regs n (pre ++ [x]) l
def c_regions (l : List S32) : Bool := c_regs l.length [] l

/-! ### regdraw -/
structure CGood (l : List S32) (start : Int) : Prop where
  each : ∀ x ∈ l, 0 ≤ x.f0 ∧ 1 ≤ x.f1 ∧ x.f1 ≤ 14 ∧ x.f0 + x.f1 ≤ 64 ∧ x.f0 + x.f1 ≤ start
  apart : l.Pairwise fun x y => x.f0 + x.f1 ≤ y.f0
theorem c_good_snoc {l : List S32} {start : Int} (g : CGood l start) (x : S32) (next : Int) (h0 : x.f0 = start) (h1 : 0 ≤ start) (h2 : 1 ≤ x.f1) (h3 : x.f1 ≤ 14) (h4 : x.f0 + x.f1 ≤ 64) (h5 : x.f0 + x.f1 ≤ next) : CGood (l ++ [x]) next where
  each := fun y hy => by
    rcases List.mem_append.1 hy with hy | hy
    · have := g.each y hy
      omega
    · rw [List.mem_singleton] at hy
      subst hy
      omega
  apart := by
    rw [List.pairwise_append]
    refine ⟨g.apart, List.pairwise_singleton _ _, fun y hy z hz => ?_⟩
    rw [List.mem_singleton] at hz
    subst hz
    have := g.each y hy
    omega
theorem c_good_up {l : List S32} {start next : Int} (g : CGood l start) (h : start ≤ next) : CGood l next where
  each := fun y hy => by
    have := g.each y hy
    omega
  apart := g.apart
theorem c_l04Regions_l {l : List Int} (d : Nat) : ∀ (acc : List S32) (start : Int) (j : Nat) (i h : Int), 4 - j = d → j ≤ 4 → acc.length ≤ j → (j ≠ 0 → acc ≠ []) → 0 ≤ start → start ≤ 5 + 16 * (j : Int) → CGood acc start → CSt l i →
    ∃ (r : List S32) (b : Int) (i' h' : Int), r.length ≤ 4 ∧ r ≠ [] ∧ CGood r b ∧ CSt l i' ∧ ∀ k, d < k → spec_l04Regions.l0 k acc start j l i h = some (r, i', h') := by
  induction d with
  | zero =>
    intro acc start j i h hd hj hl hne hs0 hs1 g s
    obtain ⟨x, i1, h1, e1, hx0, hx1, _, s1⟩ := c_below h s 4
    have hx2 := hx1 (by omega)
    refine ⟨acc, start, i1, h1, by omega, hne (by omega), g, s1, fun k hk => ?_⟩
    obtain ⟨k, rfl⟩ := c_up (k := k) (by omega)
    rw [spec_l04Regions.l0, e1]
    simp only [Option.bind_some]
    rw [c_wrap (by omega) (by omega), if_neg (by omega)]
  | succ d ih =>
    intro acc start j i h hd hj hl hne hs0 hs1 g s
    obtain ⟨x, i1, h1, e1, hx0, hx1, _, s1⟩ := c_below h s 4
    have hx2 := hx1 (by omega)
    by_cases hin : (j : Int) < 1 + x
    · obtain ⟨z, i2, h2, e2, hz0, hz1, _, s2⟩ := c_below h1 s1 14
      have hz2 := hz1 (by omega)
      obtain ⟨y, i3, h3, e3, hy0, hy1, _, s3⟩ := c_below h2 s2 3
      have hy2 := hy1 (by omega)
      by_cases hfit : start + (1 + z) ≤ 64
      · obtain ⟨r, b, i', h', q1, q2, q3, q4, q5⟩ := ih (acc ++ [⟨start, 1 + z⟩]) (start + (1 + z) + y) (j + 1) i3 h3 (by omega) (by omega) (by rw [List.length_append, List.length_singleton]; omega) (fun _ => by simp) (by omega) (by omega)
          (c_good_snoc g ⟨start, 1 + z⟩ _ rfl hs0 (by simp only; omega) (by simp only; omega) (by simp only; omega) (by simp only; omega)) s3
        refine ⟨r, b, i', h', q1, q2, q3, q4, fun k hk => ?_⟩
        obtain ⟨k, rfl⟩ := c_up (k := k) (by omega)
        rw [spec_l04Regions.l0, e1]
        simp only [Option.bind_some]
        rw [c_wrap (n := 1 + x) (by omega) (by omega), if_pos hin, e2]
        simp only [Option.bind_some]
        rw [c_wrap (n := 1 + z) (by omega) (by omega), c_wrap (n := start + (1 + z)) (by omega) (by omega), if_pos hfit, if_pos (by omega), e3]
        simp only [Option.bind_some]
        rw [c_wrap (n := start + (1 + z) + y) (by omega) (by omega), c_inc' (n := 4) (by omega) (by omega)]
        exact q5 k (by omega)
      · have hj0 : j ≠ 0 := by omega
        obtain ⟨r, b, i', h', q1, q2, q3, q4, q5⟩ := ih acc (start + (1 + z) + y) (j + 1) i3 h3 (by omega) (by omega) (by omega) (fun _ => hne hj0) (by omega) (by omega) (c_good_up g (by omega)) s3
        refine ⟨r, b, i', h', q1, q2, q3, q4, fun k hk => ?_⟩
        obtain ⟨k, rfl⟩ := c_up (k := k) (by omega)
        rw [spec_l04Regions.l0, e1]
        simp only [Option.bind_some]
        rw [c_wrap (n := 1 + x) (by omega) (by omega), if_pos hin, e2]
        simp only [Option.bind_some]
        rw [c_wrap (n := 1 + z) (by omega) (by omega), c_wrap (n := start + (1 + z)) (by omega) (by omega), if_neg hfit, e3]
        simp only [Option.bind_some]
        rw [c_wrap (n := start + (1 + z) + y) (by omega) (by omega), c_inc' (n := 4) (by omega) (by omega)]
        exact q5 k (by omega)
    · have hj0 : j ≠ 0 := by omega
      refine ⟨acc, start, i1, h1, by omega, hne hj0, g, s1, fun k hk => ?_⟩
      obtain ⟨k, rfl⟩ := c_up (k := k) (by omega)
      rw [spec_l04Regions.l0, e1]
      simp only [Option.bind_some]
      rw [c_wrap (by omega) (by omega), if_neg hin]
theorem c_l04Regions {l : List Int} {i : Int} (h : Int) (s : CSt l i) : ∃ (r : List S32) (b : Int) (i' h' : Int), r.length ≤ 4 ∧ r ≠ [] ∧ CGood r b ∧ CSt l i' ∧ ∀ k, 4 < k → spec_l04Regions.f k l i h = some (r, i', h') := by
  obtain ⟨x, i1, h1, e1, hx0, hx1, _, s1⟩ := c_below h s 6
  have hx2 := hx1 (by omega)
  obtain ⟨r, b, i', h', q1, q2, q3, q4, q5⟩ := c_l04Regions_l 4 [] x 0 i1 h1 rfl (by omega) (by simp) (by simp) hx0 (by omega) ⟨by simp, List.Pairwise.nil⟩ s1
  refine ⟨r, b, i', h', q1, q2, q3, q4, fun k hk => ?_⟩
  unfold spec_l04Regions.f
  rw [e1]
  simp only [Option.bind_some]
  exact q5 k hk
theorem c_regs_good (n : Nat) (hn : c_in n 1 4 = true) (l : List S32) : ∀ (pre : List S32) (b : Int), CGood (pre ++ l) b → c_regs n pre l = true := by
  induction l with
  | nil => intro pre b _; exact hn
  | cons x l ih =>
    intro pre b g
    have gx := g.each x (by simp)
    have hap := (List.pairwise_append.1 g.apart).2.2
    have hok : c_okR x = true := by
      unfold c_okR
      rw [Bool.and_eq_true, c_in_iff, c_in_iff]
      omega
    have hany : pre.any (c_meet x) = false := by
      rw [List.any_eq_false]
      intro y hy
      have h1 := hap y hy x (by simp)
      have gy := g.each y (by simp [hy])
      unfold c_meet
      have hw : Aside0 (wrap64 (y.f0 + y.f1) = y.f0 + y.f1) := ⟨c_wrap (by omega) (by omega)⟩
      rw [hw.out, decide_eq_false (by omega)]
      simp
    have := ih (pre ++ [x]) b (by rw [List.append_assoc]; exact g)
    rw [c_regs, hok, hany, this]
    rfl
theorem c_regions_good {l : List S32} {b : Int} (g : CGood l b) (h1 : l.length ≤ 4) (h2 : l ≠ []) : c_regions l = true := by
  have : 0 < l.length := Nat.pos_of_ne_zero (fun h_ => h2 (List.eq_nil_of_length_eq_zero h_))
  exact c_regs_good l.length (c_in_iff.2 ⟨by omega, by omega⟩) l [] b (by simpa using g)

/-! ### arenadraw -/
theorem c_once {l : List Int} {i : Int} (h : Int) (s : CSt l i) (n : Int) : ∃ b i' h', spec_l01Once.f l i h n = some (b, i', h') ∧ CSt l i' := by
  obtain ⟨x, i1, h1, e1, _, _, _, s1⟩ := c_below h s n
  unfold spec_l01Once.f
  rw [e1]
  exact ⟨_, _, _, rfl, s1⟩
theorem c_l04Any {l : List Int} {i : Int} (h : Int) (s : CSt l i) : ∃ (r : List S32) (i' h' : Int), r.length ≤ 5 ∧ (∀ x ∈ r, x.f0 ≤ 9223372036854775807) ∧ CSt l i' ∧ ∀ k, 4 < k → spec_l04Any.f k l i h = some (r, i', h') := by
  obtain ⟨r, b, i1, h1, q1, q2, q3, q4, q5⟩ := c_l04Regions h s
  have hpos : 0 < r.length := Nat.pos_of_ne_zero (fun h_ => q2 (List.eq_nil_of_length_eq_zero h_))
  obtain ⟨j, i2, h2, e2, j0, j1, _, s2⟩ := c_below h1 q4 (r.length : Int)
  obtain ⟨m, i3, h3, e3, m0, m1, _, s3⟩ := c_below h2 s2 12
  have hj := j1 (by omega)
  have hf : ∀ x ∈ r, x.f0 ≤ 9223372036854775807 := fun x hx => by
    have := q3.each x hx
    omega
  obtain ⟨n, rfl⟩ := Int.eq_ofNat_of_zero_le j0
  have hn : n < r.length := by omega
  have head : ∀ k, 4 < k → spec_l04Any.f k l i h = (if m = 0 then ((spec_l01PickInt.f l i3 h3 (([(-1), 0, 63, 64, (-9223372036854775808)] : List Int))).bind fun bt227 => (some ((r.set n (⟨bt227.1, (rd_T32 r (n : Int)).f1⟩ : S32)), bt227.2.1, bt227.2.2))) else (if m = 1 then ((spec_l01PickInt.f l i3 h3 (([0, 64, 65, 9223372036854775807] : List Int))).bind fun bt234 => (some ((r.set n (⟨(rd_T32 r (n : Int)).f0, bt234.1⟩ : S32)), bt234.2.1, bt234.2.2))) else (if m = 2 then (some ((r ++ [(⟨(rd_T32 r (n : Int)).f0, (rd_T32 r (n : Int)).f1⟩ : S32)]), i3, h3)) else (if m = 3 then (some ((([] : List (S32))), i3, h3)) else (some (r, i3, h3)))))) := by
    intro k hk
    have t1 : (0 : Int) ≤ ((n : Nat) : Int) := by omega
    have t2 : ((n : Nat) : Int) < (r.length : Int) := by omega
    have t3 : r.length < 8796093022208 := by omega
    unfold spec_l04Any.f
    rw [q5 k hk]
    simp only [Option.bind_some]
    rw [e2]
    simp only [Option.bind_some]
    rw [e3]
    simp only [Option.bind_some, if_pos t1, if_pos t2, if_pos t3, Int.toNat_natCast]
  have hr : (rd_T32 r (n : Int)).f0 ≤ 9223372036854775807 := by
    rw [c_rdR hn]
    exact hf _ (List.getElem_mem _)
  by_cases c0 : m = 0
  · obtain ⟨x, i4, h4, e4, hx, s4⟩ := c_pick h3 s3 [(-1), 0, 63, 64, (-9223372036854775808)] (by simp)
    refine ⟨r.set n ⟨x, (rd_T32 r (n : Int)).f1⟩, i4, h4, by rw [List.length_set]; omega, ?_, s4, fun k hk => ?_⟩
    · intro y hy
      rcases List.mem_or_eq_of_mem_set hy with hy | rfl
      · exact hf y hy
      · show x ≤ _
        simp only [List.mem_cons, List.not_mem_nil, or_false] at hx
        omega
    · rw [head k hk, if_pos c0, e4]
      rfl
  · by_cases c1 : m = 1
    · obtain ⟨x, i4, h4, e4, hx, s4⟩ := c_pick h3 s3 [0, 64, 65, 9223372036854775807] (by simp)
      refine ⟨r.set n ⟨(rd_T32 r (n : Int)).f0, x⟩, i4, h4, by rw [List.length_set]; omega, ?_, s4, fun k hk => ?_⟩
      · intro y hy
        rcases List.mem_or_eq_of_mem_set hy with hy | rfl
        · exact hf y hy
        · exact hr
      · rw [head k hk, if_neg c0, if_pos c1, e4]
        rfl
    · by_cases c2 : m = 2
      · refine ⟨_, i3, h3, ?_, ?_, s3, fun k hk => by rw [head k hk, if_neg c0, if_neg c1, if_pos c2]⟩
        · rw [List.length_append, List.length_singleton]
          omega
        · intro y hy
          rcases List.mem_append.1 hy with hy | hy
          · exact hf y hy
          · rw [List.mem_singleton] at hy
            subst hy
            exact hr
      · by_cases c3 : m = 3
        · exact ⟨[], i3, h3, by simp, by simp, s3, fun k hk => by rw [head k hk, if_neg c0, if_neg c1, if_neg c2, if_pos c3]⟩
        · exact ⟨r, i3, h3, by omega, hf, s3, fun k hk => by rw [head k hk, if_neg c0, if_neg c1, if_neg c2, if_neg c3]⟩
theorem c_DrawRegionsOk (l : List Int) (hl : l.length ≤ 4611686018427387904) : ∃ (r : List S32), r.length ≤ 5 ∧ ∀ k, 4000 < k → spec_DrawRegionsOk.f k l = some r := by
  obtain ⟨h, hh⟩ := c_l01New l hl
  obtain ⟨r, i', h', q1, q2, q3, q4⟩ := c_l04Any (l := l) (i := 0) h ⟨by omega, by omega, hl⟩
  refine ⟨r, q1, fun k hk => ?_⟩
  unfold spec_DrawRegionsOk.f
  rw [hh k hk]
  simp only [Option.bind_some]
  rw [q4 k (by omega)]
  rfl
theorem c_arena_l {l : List Int} (d : Nat) : ∀ (acc : List Int) (j : Nat) (i h : Int), 10 - j = d → j ≤ 10 → acc.length = 64 → CSt l i → ∃ (a : List Int) (i' h' : Int), a.length ≤ 64 ∧ CSt l i' ∧ ∀ k, d < k → spec_l04Arena.l0 k j l i h acc = some (a, i', h') := by
  induction d with
  | zero =>
    intro acc j i h hd hj ha s
    obtain ⟨b, i1, h1, e1, s1⟩ := c_once h s 12
    by_cases hb : b = true
    · obtain ⟨y, i2, h2, e2, y0, y1, _, s2⟩ := c_below h1 s1 60
      have y2 := y1 (by omega)
      refine ⟨acc.take y.toNat, i2, h2, by rw [List.length_take]; omega, s2, fun k hk => ?_⟩
      obtain ⟨k, rfl⟩ := c_up (k := k) (by omega)
      rw [spec_l04Arena.l0, if_neg (by omega), e1]
      simp only [Option.bind_some]
      rw [if_pos hb, e2]
      simp only [Option.bind_some]
      rw [if_pos (by omega), if_pos (by omega)]
    · refine ⟨acc, i1, h1, by omega, s1, fun k hk => ?_⟩
      obtain ⟨k, rfl⟩ := c_up (k := k) (by omega)
      rw [spec_l04Arena.l0, if_neg (by omega), e1]
      simp only [Option.bind_some]
      rw [if_neg hb]
  | succ d ih =>
    intro acc j i h hd hj ha s
    obtain ⟨x, i1, h1, e1, x0, x1, _, s1⟩ := c_below h s 64
    obtain ⟨y, i2, h2, e2, y0, y1, _, s2⟩ := c_below h1 s1 65536
    have x2 := x1 (by omega)
    obtain ⟨a, i', h', q1, q2, q3⟩ := ih (acc.set x.toNat y) (j + 1) i2 h2 (by omega) (by omega) (by rw [List.length_set]; exact ha) s2
    refine ⟨a, i', h', q1, q2, fun k hk => ?_⟩
    obtain ⟨k, rfl⟩ := c_up (k := k) (by omega)
    rw [spec_l04Arena.l0, if_pos (by omega), e1]
    simp only [Option.bind_some]
    rw [e2]
    simp only [Option.bind_some]
    rw [if_pos (by omega), if_pos (by omega), c_inc' (n := 10) (by omega) (by omega)]
    exact q3 k (by omega)
theorem c_l04Arena {l : List Int} {i : Int} (h : Int) (s : CSt l i) : ∃ (a : List Int) (i' h' : Int), a.length ≤ 64 ∧ CSt l i' ∧ ∀ k, 10 < k → spec_l04Arena.f k l i h = some (a, i', h') := by
  obtain ⟨a, i', h', q1, q2, q3⟩ := c_arena_l (l := l) 10 (List.replicate 64 0) 0 i h rfl (by omega) List.length_replicate s
  refine ⟨a, i', h', q1, q2, fun k hk => ?_⟩
  have hnew : spec_ArenaNew.f = some (List.replicate 64 0) := by unfold spec_ArenaNew.f; rw [if_pos (by omega)]
  unfold spec_l04Arena.f
  rw [hnew]
  simp only [Option.bind_some]
  exact q3 k hk
theorem c_l04Region {l : List Int} {i : Int} (h : Int) (s : CSt l i) : ∃ (f z i' h' : Int), f ≤ 9223372036854775807 ∧ CSt l i' ∧ ∀ k, 4 < k → spec_l04Region.f k l i h = some (f, z, i', h') := by
  obtain ⟨r, i1, h1, q1, q2, s1, q4⟩ := c_l04Any h s
  by_cases h0 : (r.length : Int) = 0
  · refine ⟨0, 0, i1, h1, by omega, s1, fun k hk => ?_⟩
    unfold spec_l04Region.f
    rw [q4 k hk]
    simp only [Option.bind_some]
    rw [if_pos h0]
  · obtain ⟨j, i2, h2, e2, j0, j1, _, s2⟩ := c_below h1 s1 (r.length : Int)
    have hj := j1 (by omega)
    obtain ⟨n, rfl⟩ := Int.eq_ofNat_of_zero_le j0
    have hn : n < r.length := by omega
    refine ⟨(rd_T32 r (n : Int)).f0, (rd_T32 r (n : Int)).f1, i2, h2, by rw [c_rdR hn]; exact q2 _ (List.getElem_mem _), s2, fun k hk => ?_⟩
    unfold spec_l04Region.f
    rw [q4 k hk]
    simp only [Option.bind_some]
    rw [if_neg h0, e2]
    simp only [Option.bind_some]
    rw [if_pos (by omega), if_pos (by omega)]
theorem c_DrawCellsOf (l : List Int) (hl : l.length ≤ 4611686018427387904) : ∃ (a : List Int) (f z : Int), a.length ≤ 64 ∧ f ≤ 9223372036854775807 ∧ ∀ k, 4000 < k → spec_DrawCellsOf.f k l = some (a, f, z) := by
  obtain ⟨h, hh⟩ := c_l01New l hl
  obtain ⟨a, i1, h1, q1, s1, q3⟩ := c_l04Arena (l := l) (i := 0) h ⟨by omega, by omega, hl⟩
  obtain ⟨f, z, i2, h2, p1, s2, p3⟩ := c_l04Region h1 s1
  refine ⟨a, f, z, q1, p1, fun k hk => ?_⟩
  unfold spec_DrawCellsOf.f
  rw [hh k hk]
  simp only [Option.bind_some]
  rw [q3 k (by omega)]
  simp only [Option.bind_some]
  rw [p3 k (by omega)]
  rfl

/-! ### places -/
theorem c_big (l : List Int) : laws_big.f l = some (decide ((l.length : Int) > 1048576)) := rfl

/-! ### within_s -/
theorem c_l01In (n l h : Int) : spec_l01In.f n l h = some (c_in n l h) := by
  unfold spec_l01In.f c_in
  by_cases h0 : n ≥ l
  · rw [if_pos h0]; simp [h0]
  · rw [if_neg h0]; simp; omega

/-! ### regionsok_s -/
theorem c_regs_in_spec (l : List S32) (hl : l.length ≤ 1048576) (i : Nat) (hi : i ≤ l.length) (x : S32) (e : Nat) : ∀ (k j : Nat), i - j = e → j ≤ i →
    spec_RegionsOk.l1 (k + e + 1) l i j x.f0 x.f1 = if ((l.take i).drop j).any (c_meet x) = true then some false else spec_RegionsOk.l0 k l (wrap64 ((i : Int) + 1)) := by
  induction e with
  | zero =>
    intro k j he hj
    rw [spec_RegionsOk.l1, if_neg (by omega), List.drop_eq_nil_of_le (by rw [List.length_take]; omega)]
    rfl
  | succ e ih =>
    intro k j he hj
    have hlt : j < (l.take i).length := by rw [List.length_take]; omega
    have hd : (l.take i).drop j = l[j]'(by omega) :: (l.take i).drop (j + 1) := by
      rw [List.drop_eq_getElem_cons hlt, List.getElem_take]
    have e2 : k + (e + 1) + 1 = (k + e + 1) + 1 := by omega
    rw [e2, spec_RegionsOk.l1, if_pos (by omega), if_pos (by omega), if_pos (by omega), c_rdR (by omega), c_inc' (i := j) (n := i) (by omega) (by omega), ih k (j + 1) (by omega) (by omega), hd, List.any_cons]
    have hm : c_meet x (l[j]'(by omega)) = (decide (x.f0 < wrap64 ((l[j]'(by omega)).f0 + (l[j]'(by omega)).f1)) && decide ((l[j]'(by omega)).f0 < wrap64 (x.f0 + x.f1))) := rfl
    by_cases h1 : x.f0 < wrap64 ((l[j]'(by omega)).f0 + (l[j]'(by omega)).f1)
    · rw [if_pos h1]
      by_cases h2 : (l[j]'(by omega)).f0 < wrap64 (x.f0 + x.f1)
      · rw [if_pos h2, hm, decide_eq_true h1, decide_eq_true h2]
        rfl
      · rw [if_neg h2, hm, decide_eq_true h1, decide_eq_false h2]
        rfl
    · rw [if_neg h1, hm, decide_eq_false h1]
      rfl
theorem c_regs_spec (l : List S32) (hl : l.length ≤ 1048576) (d : Nat) : ∀ (k i : Nat), l.length - i = d → i ≤ l.length → d * (l.length + 5) < k → spec_RegionsOk.l0 k l i = some (c_regs l.length (l.take i) (l.drop i)) := by
  induction d with
  | zero =>
    intro k i hd hi hk
    obtain ⟨k, rfl⟩ := c_up (k := k) (by omega)
    rw [spec_RegionsOk.l0, if_neg (by omega), List.drop_eq_nil_of_le (by omega), c_l01In]
    rfl
  | succ d ih =>
    intro k i hd hi hk
    rw [Nat.succ_mul] at hk
    obtain ⟨k, rfl⟩ : ∃ m, k = (m + i + 1) + 1 + 1 := ⟨k - i - 3, by omega⟩
    have hdr : l.drop i = l[i]'(by omega) :: l.drop (i + 1) := List.drop_eq_getElem_cons (by omega)
    have htk : l.take (i + 1) = l.take i ++ [l[i]'(by omega)] := List.take_succ_eq_append_getElem (by omega)
    have hrec := ih k (i + 1) (by omega) (by omega) (by omega)
    have hin := c_regs_in_spec l hl i hi (l[i]'(by omega)) i k 0 (by omega) (by omega)
    rw [c_inc' (i := i) (n := l.length) (by omega) (by omega), hrec, htk, List.drop_zero] at hin
    rw [spec_RegionsOk.l0, if_pos (by omega), if_pos (by omega), c_rdR (by omega), hdr, c_regs]
    generalize l[i]'(by omega) = x at *
    rw [c_l01In, c_l01In]
    simp only [Option.bind_some]
    by_cases h1 : c_in x.f0 0 63 = true
    · have h1' := c_in_iff.1 h1
      rw [if_pos h1, c_wrap (by omega) (by omega)]
      by_cases h2 : c_in x.f1 1 (64 - x.f0) = true
      · rw [h2, spec_RegionsOk.j1, if_neg (by decide)]
        have e0 : ((0 : Nat) : Int) = 0 := rfl
        rw [e0] at hin
        rw [hin]
        have hok : c_okR x = true := by unfold c_okR; rw [h1, h2]; rfl
        rw [hok]
        cases (l.take i).any (c_meet x) <;> simp
      · have hok : c_okR x = false := by unfold c_okR; simp at h2; rw [h2]; simp
        simp at h2
        rw [h2, spec_RegionsOk.j1, if_pos (by decide), hok]
        rfl
    · have hok : c_okR x = false := by unfold c_okR; simp at h1; rw [h1]; rfl
      rw [if_neg h1, spec_RegionsOk.j1, if_pos rfl, hok]
      rfl
theorem c_RegionsOk_spec (l : List S32) (hl : l.length ≤ 1048576) (k : Nat) (hk : l.length * (l.length + 5) < k) : spec_RegionsOk.f k l = some (c_regions l) := by
  have := c_regs_spec l hl l.length k 0 (by omega) (by omega) hk
  simpa [spec_RegionsOk.f, c_regions] using this

/-! ### within_i -/
theorem c_within (n l h : Int) : impl_within.f n l h = some (c_in n l h) := by
  unfold impl_within.f c_in
  by_cases h0 : n ≥ l
  · rw [if_pos h0]; simp [h0]
  · rw [if_neg h0]; simp; omega

/-! ### regionsok_i -/
theorem c_regs_in_impl (l : List S32) (hl : l.length ≤ 1048576) (i : Nat) (hi : i ≤ l.length) (x : S32) (e : Nat) : ∀ (k j : Nat), i - j = e → j ≤ i →
    impl_RegionsOk.l1 (k + e + 1) l l (l.length : Int) i (l.take i) ((l.take i).length : Int) j x.f0 x.f1 = if ((l.take i).drop j).any (c_meet x) = true then some false else impl_RegionsOk.l0 k l l (l.length : Int) (wrap64 ((i : Int) + 1)) := by
  have hlen : (l.take i).length = i := by rw [List.length_take]; omega
  induction e with
  | zero =>
    intro k j he hj
    rw [impl_RegionsOk.l1, if_neg (by omega), List.drop_eq_nil_of_le (by omega)]
    rfl
  | succ e ih =>
    intro k j he hj
    have hlt : j < (l.take i).length := by omega
    have hd : (l.take i).drop j = (l.take i)[j]'hlt :: (l.take i).drop (j + 1) := List.drop_eq_getElem_cons hlt
    have e2 : k + (e + 1) + 1 = (k + e + 1) + 1 := by omega
    rw [e2, impl_RegionsOk.l1, if_pos (by omega), if_pos (by omega), if_pos (by omega), c_rdR hlt, c_inc' (i := j) (n := i) (by omega) (by omega), ih k (j + 1) (by omega) (by omega), hd, List.any_cons]
    generalize (l.take i)[j]'hlt = y
    have hm : c_meet x y = (decide (x.f0 < wrap64 (y.f0 + y.f1)) && decide (y.f0 < wrap64 (x.f0 + x.f1))) := rfl
    by_cases h1 : x.f0 < wrap64 (y.f0 + y.f1)
    · rw [if_pos h1]
      by_cases h2 : y.f0 < wrap64 (x.f0 + x.f1)
      · rw [if_pos h2, hm, decide_eq_true h1, decide_eq_true h2]
        rfl
      · rw [if_neg h2, hm, decide_eq_true h1, decide_eq_false h2]
        rfl
    · rw [if_neg h1, hm, decide_eq_false h1]
      rfl
theorem c_okR_iff (x : S32) : c_okR x = true ↔ 0 ≤ x.f0 ∧ 1 ≤ x.f1 ∧ x.f1 ≤ 64 ∧ x.f0 ≤ 64 - x.f1 := by
  unfold c_okR
  rw [Bool.and_eq_true, c_in_iff, c_in_iff]
  omega
theorem c_regs_impl (l : List S32) (hl : l.length ≤ 1048576) (d : Nat) : ∀ (k i : Nat), l.length - i = d → i ≤ l.length → d * (l.length + 5) < k → impl_RegionsOk.l0 k l l (l.length : Int) i = some (c_regs l.length (l.take i) (l.drop i)) := by
  induction d with
  | zero =>
    intro k i hd hi hk
    obtain ⟨k, rfl⟩ := c_up (k := k) (by omega)
    rw [impl_RegionsOk.l0, if_neg (by omega), List.drop_eq_nil_of_le (by omega), c_within]
    rfl
  | succ d ih =>
    intro k i hd hi hk
    rw [Nat.succ_mul] at hk
    obtain ⟨k, rfl⟩ : ∃ m, k = (m + i + 1) + 1 + 1 := ⟨k - i - 3, by omega⟩
    have hdr : l.drop i = l[i]'(by omega) :: l.drop (i + 1) := List.drop_eq_getElem_cons (by omega)
    have htk : l.take (i + 1) = l.take i ++ [l[i]'(by omega)] := List.take_succ_eq_append_getElem (by omega)
    have hrec := ih k (i + 1) (by omega) (by omega) (by omega)
    have hin := c_regs_in_impl l hl i hi (l[i]'(by omega)) i k 0 (by omega) (by omega)
    rw [c_inc' (i := i) (n := l.length) (by omega) (by omega), hrec, htk, List.drop_zero] at hin
    have e0 : ((0 : Nat) : Int) = 0 := rfl
    rw [e0] at hin
    rw [impl_RegionsOk.l0, if_pos (by omega), if_pos (by omega), if_pos (by omega), c_rdR (by omega), hdr, c_regs]
    generalize l[i]'(by omega) = x at *
    have hok := c_okR_iff x
    have yes : impl_RegionsOk.j1 (k + i + 1 + 1) l i l (l.length : Int) i true x.f0 x.f1 = some false := by rw [impl_RegionsOk.j1, if_pos rfl]
    by_cases h1 : x.f0 < 0
    · rw [if_pos h1, yes]
      have : c_okR x = false := by rw [Bool.eq_false_iff]; intro h; have := hok.1 h; omega
      rw [this]; rfl
    · rw [if_neg h1]
      by_cases h2 : x.f1 < 1
      · rw [if_pos h2, yes]
        have : c_okR x = false := by rw [Bool.eq_false_iff]; intro h; have := hok.1 h; omega
        rw [this]; rfl
      · rw [if_neg h2]
        by_cases h3 : x.f1 > 64
        · rw [if_pos h3, yes]
          have : c_okR x = false := by rw [Bool.eq_false_iff]; intro h; have := hok.1 h; omega
          rw [this]; rfl
        · rw [if_neg h3, c_wrap (n := 64 - x.f1) (by omega) (by omega)]
          by_cases h4 : x.f0 > 64 - x.f1
          · rw [decide_eq_true h4, yes]
            have : c_okR x = false := by rw [Bool.eq_false_iff]; intro h; have := hok.1 h; omega
            rw [this]; rfl
          · have hy : c_okR x = true := hok.2 (by omega)
            rw [decide_eq_false h4, impl_RegionsOk.j1, if_neg (by decide), if_pos (by omega), if_pos (by omega), Int.toNat_natCast]
            simp only [Option.bind_some]
            rw [hin, hy]
            cases (l.take i).any (c_meet x) <;> simp
theorem c_RegionsOk_impl (l : List S32) (hl : l.length ≤ 1048576) (k : Nat) (hk : l.length * (l.length + 5) < k) : impl_RegionsOk.f k l = some (c_regions l) := by
  have := c_regs_impl l hl l.length k 0 (by omega) (by omega) hk
  simpa [impl_RegionsOk.f, c_regions] using this

/-! ### cellat -/
def c_at (n : Nat) (f z p : Int) : Int := if 0 ≤ p ∧ p < z ∧ 0 ≤ f ∧ p < (n : Int) - f then f + p else -1
theorem c_at_lt {n : Nat} {f z p : Int} : -1 ≤ c_at n f z p ∧ c_at n f z p < n := by unfold c_at; split <;> omega
theorem c_cellAt (l : List Int) (hl : l.length ≤ 9223372036854775807) (f z p : Int) (hf : f ≤ 9223372036854775807) : impl_cellAt.f l f z p = some (c_at l.length f z p) := by
  unfold impl_cellAt.f c_at
  by_cases h1 : f < 0
  · rw [if_pos h1, if_neg (by omega)]
  · rw [if_neg h1]
    by_cases h2 : p < 0
    · rw [if_pos h2, if_neg (by omega)]
    · rw [if_neg h2]
      by_cases h3 : p ≥ z
      · rw [if_pos h3, if_neg (by omega)]
      · rw [if_neg h3, c_wrap (n := (l.length : Int) - f) (by omega) (by omega)]
        by_cases h4 : p ≥ (l.length : Int) - f
        · rw [if_pos h4, if_neg (by omega)]
        · rw [if_neg h4, if_pos (by omega), c_wrap (by omega) (by omega)]
theorem c_l04At (l : List Int) (hl : l.length ≤ 9223372036854775807) (f z p : Int) (hf : f ≤ 9223372036854775807) : spec_l04At.f l f z p = some (c_at l.length f z p) := by
  unfold spec_l04At.f c_at
  by_cases h2 : p < 0
  · rw [if_pos h2, if_neg (by omega)]
  · rw [if_neg h2]
    by_cases h3 : p ≥ z
    · rw [if_pos h3, if_neg (by omega)]
    · rw [if_neg h3, c_l01In, c_wrap (n := (l.length : Int) - 1) (by omega) (by omega)]
      simp only [Option.bind_some]
      by_cases h1 : c_in f 0 ((l.length : Int) - 1) = true
      · rw [if_pos h1]
        rw [c_in_iff] at h1
        rw [c_wrap (n := (l.length : Int) - f) (by omega) (by omega)]
        by_cases h4 : p ≥ (l.length : Int) - f
        · rw [if_pos h4, if_neg (by omega)]
        · rw [if_neg h4, if_pos (by omega), c_wrap (by omega) (by omega)]
      · rw [if_neg h1]
        rw [c_in_no] at h1
        rw [if_neg (by omega)]

/-! ### cells -/
def c_n (n : Nat) (f z : Int) : Nat := if 0 ≤ f then (min z ((n : Int) - f)).toNat else 0
theorem c_at_n (n : Nat) (f z : Int) (p : Nat) : c_at n f z (p : Int) = if p < c_n n f z then f + (p : Int) else -1 := by
  unfold c_at c_n
  by_cases h : 0 ≤ f
  · rw [if_pos h]
    split <;> split <;> omega
  · rw [if_neg h, if_neg (by omega), if_neg (by omega)]
theorem c_n_le (n : Nat) (f z : Int) : c_n n f z ≤ n ∧ (c_n n f z : Int) ≤ max z 0 ∧ (0 < c_n n f z → 0 ≤ f ∧ f + (c_n n f z : Int) ≤ n) := by
  unfold c_n
  split <;> omega
def c_cells (l : List Int) (f z : Int) : List Int := (l.drop f.toNat).take (c_n l.length f z)
theorem c_cells_step (l : List Int) (f z : Int) (p : Nat) (h : p < c_n l.length f z) : ((l.drop f.toNat).take p) ++ [rd l (f + (p : Int))] = (l.drop f.toNat).take (p + 1) := by
  obtain ⟨h1, h2, h3⟩ := c_n_le l.length f z
  obtain ⟨h4, h5⟩ := h3 (by omega)
  obtain ⟨g, rfl⟩ := Int.eq_ofNat_of_zero_le h4
  have e : (g : Int) + (p : Int) = ((g + p : Nat) : Int) := by omega
  rw [e, c_rd (by omega), Int.toNat_natCast, List.take_succ_eq_append_getElem (by rw [List.length_drop]; omega), List.getElem_drop]
theorem c_cells_len (l : List Int) (f z : Int) : (c_cells l f z).length ≤ l.length := by
  unfold c_cells
  rw [List.length_take, List.length_drop]
  omega

/-! ### cellsof_i -/
theorem c_cellsOf_impl (l : List Int) (hl : l.length ≤ 1048576) (f z : Int) (hf : f ≤ 9223372036854775807) (d : Nat) : ∀ (k p : Nat), c_n l.length f z - p = d → p ≤ c_n l.length f z → d < k → impl_CellsOf.l0 k ((l.drop f.toNat).take p) p l f z = some (c_cells l f z) := by
  obtain ⟨h1, h2, h3⟩ := c_n_le l.length f z
  induction d with
  | zero =>
    intro k p hd hp hk
    obtain ⟨k, rfl⟩ := c_up (k := k) (by omega)
    rw [impl_CellsOf.l0, c_cellAt l (by omega) f z p hf, c_at_n, if_neg (by omega)]
    simp only [Option.bind_some]
    rw [if_neg (by omega)]
    have : p = c_n l.length f z := by omega
    rw [this]
    rfl
  | succ d ih =>
    intro k p hd hp hk
    obtain ⟨k, rfl⟩ := c_up (k := k) (by omega)
    obtain ⟨h4, h5⟩ := h3 (by omega)
    have hs := c_cells_step l f z p (by omega)
    have := ih k (p + 1) (by omega) (by omega) (by omega)
    rw [← hs] at this
    have q5 : ((l.drop f.toNat).take p).length < 17592186044416 := by rw [List.length_take, List.length_drop]; omega
    rw [impl_CellsOf.l0, c_cellAt l (by omega) f z p hf, c_at_n, if_pos (by omega)]
    simp only [Option.bind_some]
    rw [if_pos (by omega), c_wrap (n := f + (p : Int)) (by omega) (by omega), if_pos (by omega), if_pos (by omega), if_pos q5, c_inc (n := l.length) (by omega) (by omega), this]
theorem c_CellsOf_impl (l : List Int) (hl : l.length ≤ 1048576) (f z : Int) (hf : f ≤ 9223372036854775807) (k : Nat) (hk : l.length < k) : impl_CellsOf.f k l f z = some (c_cells l f z) := by
  obtain ⟨h1, h2, h3⟩ := c_n_le l.length f z
  have := c_cellsOf_impl l hl f z hf (c_n l.length f z) k 0 (by omega) (by omega) (by omega)
  unfold impl_CellsOf.f
  exact this

/-! ### cellsof_s -/
theorem c_cellsOf_rest (l : List Int) (hl : l.length ≤ 1048576) (f z : Int) (hf : f ≤ 9223372036854775807) (acc : List Int) (d : Nat) : ∀ (k p : Nat), l.length - p = d → c_n l.length f z ≤ p → 2 * d + 2 ≤ k → spec_CellsOf.l0 k acc p l f z = some acc := by
  induction d with
  | zero =>
    intro k p hd hp hk
    obtain ⟨k, rfl⟩ : ∃ m, k = m + 1 + 1 := ⟨k - 2, by omega⟩
    have hz : decide ((p : Int) < (l.length : Int)) = false := by simp; omega
    rw [spec_CellsOf.l0, hz]
    have : spec_CellsOf.j1 (k + 1) acc p false l f z = some acc := by rw [spec_CellsOf.j1, if_neg (by decide)]
    split <;> exact this
  | succ d ih =>
    intro k p hd hp hk
    obtain ⟨k, rfl⟩ : ∃ m, k = m + 1 + 1 := ⟨k - 2, by omega⟩
    by_cases hz : (p : Int) < z
    · have hl' : decide ((p : Int) < (l.length : Int)) = true := by simp; omega
      rw [spec_CellsOf.l0, if_pos hz, hl', spec_CellsOf.j1, if_pos rfl, c_l04At l (by omega) f z p hf, c_at_n, if_neg (by omega)]
      simp only [Option.bind_some]
      rw [if_neg (by omega), c_inc (n := l.length) (by omega) (by omega)]
      exact ih k (p + 1) (by omega) (by omega) (by omega)
    · rw [spec_CellsOf.l0, if_neg hz, spec_CellsOf.j1, if_neg (by decide)]
theorem c_cellsOf_spec (l : List Int) (hl : l.length ≤ 1048576) (f z : Int) (hf : f ≤ 9223372036854775807) (d : Nat) : ∀ (k p : Nat), c_n l.length f z - p = d → p ≤ c_n l.length f z → 2 * (l.length - p) + 2 ≤ k → spec_CellsOf.l0 k ((l.drop f.toNat).take p) p l f z = some (c_cells l f z) := by
  obtain ⟨h1, h2, h3⟩ := c_n_le l.length f z
  induction d with
  | zero =>
    intro k p hd hp hk
    have e : p = c_n l.length f z := by omega
    rw [c_cellsOf_rest l hl f z hf _ (l.length - p) k p rfl (by omega) (by omega), e]
    rfl
  | succ d ih =>
    intro k p hd hp hk
    obtain ⟨k, rfl⟩ : ∃ m, k = m + 1 + 1 := ⟨k - 2, by omega⟩
    obtain ⟨h4, h5⟩ := h3 (by omega)
    have hs := c_cells_step l f z p (by omega)
    have := ih k (p + 1) (by omega) (by omega) (by omega)
    rw [← hs] at this
    have q5 : ((l.drop f.toNat).take p).length < 17592186044416 := by rw [List.length_take, List.length_drop]; omega
    have hl' : decide ((p : Int) < (l.length : Int)) = true := by simp; omega
    rw [spec_CellsOf.l0, if_pos (by omega), hl', spec_CellsOf.j1, if_pos rfl, c_l04At l (by omega) f z p hf, c_at_n, if_pos (by omega)]
    simp only [Option.bind_some]
    rw [if_pos (by omega), if_pos (by omega), if_pos (by omega), if_pos q5, c_inc (n := l.length) (by omega) (by omega), this]
theorem c_CellsOf_spec (l : List Int) (hl : l.length ≤ 1048576) (f z : Int) (hf : f ≤ 9223372036854775807) (k : Nat) (hk : 2 * l.length + 2 ≤ k) : spec_CellsOf.f k l f z = some (c_cells l f z) := by
  obtain ⟨h1, h2, h3⟩ := c_n_le l.length f z
  have := c_cellsOf_spec l hl f z hf (c_n l.length f z) k 0 (by omega) (by omega) (by omega)
  unfold spec_CellsOf.f
  exact this

/-! ### loadcell -/
def c_load (l : List Int) (f z p : Int) : Int × Bool := if c_at l.length f z p < 0 then (0, false) else (rd l (c_at l.length f z p), true)

/-! ### store -/
def c_mod (n : Int) : Int := n % 65536
theorem c_copyInts (l : List Int) (hl : l.length ≤ 1048576) : impl_copyInts.f l = some l := by
  unfold impl_copyInts.f
  simp only [Option.bind_some]
  rw [if_pos (by simp; omega), List.nil_append]
theorem c_copyArena (l : List Int) (hl : l.length ≤ 1048576) : impl_copyArena.f l = some l := by
  unfold impl_copyArena.f
  rw [c_copyInts l hl]
  rfl
theorem c_l04Copy (l : List Int) (hl : l.length ≤ 1048576) : spec_l04Copy.f l = some l := by
  unfold spec_l04Copy.f
  simp only [Option.bind_some]
  rw [if_pos (by simp; omega), List.nil_append]
def c_store (l : List Int) (f z p n : Int) : List Int × Bool := if c_at l.length f z p < 0 then (l, false) else (l.set (c_at l.length f z p).toNat (c_mod n), true)
theorem c_store_len (l : List Int) (f z p n : Int) : (c_store l f z p n).1.length = l.length := by
  unfold c_store
  split
  · rfl
  · simp

/-! ### clearcells -/
def c_clearN (l : List Int) (f : Int) (p : Nat) : List Int := l.take f.toNat ++ (List.replicate p 0 ++ l.drop (f.toNat + p))
def c_clear (l : List Int) (f z : Int) : List Int := c_clearN l f (c_n l.length f z)
theorem c_clearN_zero (l : List Int) (f : Int) : c_clearN l f 0 = l := by simp [c_clearN]
theorem c_clearN_len (l : List Int) (f : Int) (p : Nat) (h : f.toNat + p ≤ l.length) : (c_clearN l f p).length = l.length := by
  unfold c_clearN
  rw [List.length_append, List.length_append, List.length_take, List.length_replicate, List.length_drop]
  omega
theorem c_clear_step (l : List Int) (f : Int) (p : Nat) (h : f.toNat + p < l.length) : (c_clearN l f p).set (f.toNat + p) 0 = c_clearN l f (p + 1) := by
  unfold c_clearN
  have hl : (l.take f.toNat).length = f.toNat := by rw [List.length_take]; omega
  rw [List.set_append_right _ _ (by omega), hl, List.set_append_right _ _ (by simp), List.length_replicate, List.drop_eq_getElem_cons h]
  have e : f.toNat + p - f.toNat - p = 0 := by omega
  rw [e, List.set_cons_zero, List.replicate_succ', List.append_assoc]
  rfl
theorem c_clear_len (l : List Int) (f z : Int) : (c_clear l f z).length = l.length := by
  obtain ⟨h1, h2, h3⟩ := c_n_le l.length f z
  rcases Nat.eq_zero_or_pos (c_n l.length f z) with h | h
  · unfold c_clear; rw [h, c_clearN_zero]
  · obtain ⟨h4, h5⟩ := h3 h
    exact c_clearN_len l f _ (by omega)

/-! ### clearcells_i -/
theorem c_clear_impl (l : List Int) (hl : l.length ≤ 1048576) (f z : Int) (hf : f ≤ 9223372036854775807) (d : Nat) : ∀ (k p : Nat), c_n l.length f z - p = d → p ≤ c_n l.length f z → d < k → impl_ClearCells.l0 k p l f z (c_clearN l f p) = some (c_clear l f z) := by
  obtain ⟨h1, h2, h3⟩ := c_n_le l.length f z
  induction d with
  | zero =>
    intro k p hd hp hk
    obtain ⟨k, rfl⟩ := c_up (k := k) (by omega)
    rw [impl_ClearCells.l0, c_cellAt l (by omega) f z p hf, c_at_n, if_neg (by omega)]
    simp only [Option.bind_some]
    rw [if_neg (by omega)]
    have : p = c_n l.length f z := by omega
    rw [this]
    rfl
  | succ d ih =>
    intro k p hd hp hk
    obtain ⟨k, rfl⟩ := c_up (k := k) (by omega)
    obtain ⟨h4, h5⟩ := h3 (by omega)
    have := ih k (p + 1) (by omega) (by omega) (by omega)
    have hlen := c_clearN_len l f p (by omega)
    have e : (f + (p : Int)).toNat = f.toNat + p := by omega
    rw [impl_ClearCells.l0, c_cellAt l (by omega) f z p hf, c_at_n, if_pos (by omega)]
    simp only [Option.bind_some]
    rw [if_pos (by omega), c_wrap (n := f + (p : Int)) (by omega) (by omega), if_pos (by omega), if_pos (by omega), e, c_clear_step l f p (by omega), c_inc (n := l.length) (by omega) (by omega), this]
theorem c_ClearCells_impl (l : List Int) (hl : l.length ≤ 1048576) (f z : Int) (hf : f ≤ 9223372036854775807) (k : Nat) (hk : l.length < k) : impl_ClearCells.f k l f z = some (c_clear l f z) := by
  obtain ⟨h1, h2, h3⟩ := c_n_le l.length f z
  have := c_clear_impl l hl f z hf (c_n l.length f z) k 0 (by omega) (by omega) (by omega)
  rw [c_clearN_zero] at this
  unfold impl_ClearCells.f
  rw [c_copyArena l hl]
  exact this

/-! ### clearcells_s -/
theorem c_clear_rest (l : List Int) (hl : l.length ≤ 1048576) (f z : Int) (hf : f ≤ 9223372036854775807) (acc : List Int) (d : Nat) : ∀ (k p : Nat), l.length - p = d → c_n l.length f z ≤ p → 2 * d + 2 ≤ k → spec_ClearCells.l0 k p l f z acc = some acc := by
  induction d with
  | zero =>
    intro k p hd hp hk
    obtain ⟨k, rfl⟩ : ∃ m, k = m + 1 + 1 := ⟨k - 2, by omega⟩
    have hz : decide ((p : Int) < (l.length : Int)) = false := by simp; omega
    rw [spec_ClearCells.l0, hz]
    have : spec_ClearCells.j1 (k + 1) p false l f z acc = some acc := by rw [spec_ClearCells.j1, if_neg (by decide)]
    split <;> exact this
  | succ d ih =>
    intro k p hd hp hk
    obtain ⟨k, rfl⟩ : ∃ m, k = m + 1 + 1 := ⟨k - 2, by omega⟩
    by_cases hz : (p : Int) < z
    · have hl' : decide ((p : Int) < (l.length : Int)) = true := by simp; omega
      rw [spec_ClearCells.l0, if_pos hz, hl', spec_ClearCells.j1, if_pos rfl, c_l04At l (by omega) f z p hf, c_at_n, if_neg (by omega)]
      simp only [Option.bind_some]
      rw [if_neg (by omega), c_inc (n := l.length) (by omega) (by omega)]
      exact ih k (p + 1) (by omega) (by omega) (by omega)
    · rw [spec_ClearCells.l0, if_neg hz, spec_ClearCells.j1, if_neg (by decide)]
theorem c_clear_spec (l : List Int) (hl : l.length ≤ 1048576) (f z : Int) (hf : f ≤ 9223372036854775807) (d : Nat) : ∀ (k p : Nat), c_n l.length f z - p = d → p ≤ c_n l.length f z → 2 * (l.length - p) + 2 ≤ k → spec_ClearCells.l0 k p l f z (c_clearN l f p) = some (c_clear l f z) := by
  obtain ⟨h1, h2, h3⟩ := c_n_le l.length f z
  induction d with
  | zero =>
    intro k p hd hp hk
    have e : p = c_n l.length f z := by omega
    rw [c_clear_rest l hl f z hf _ (l.length - p) k p rfl (by omega) (by omega), e]
    rfl
  | succ d ih =>
    intro k p hd hp hk
    obtain ⟨k, rfl⟩ : ∃ m, k = m + 1 + 1 := ⟨k - 2, by omega⟩
    obtain ⟨h4, h5⟩ := h3 (by omega)
    have := ih k (p + 1) (by omega) (by omega) (by omega)
    have hlen := c_clearN_len l f p (by omega)
    have e : (f + (p : Int)).toNat = f.toNat + p := by omega
    have hl' : decide ((p : Int) < (l.length : Int)) = true := by simp; omega
    rw [spec_ClearCells.l0, if_pos (by omega), hl', spec_ClearCells.j1, if_pos rfl, c_l04At l (by omega) f z p hf, c_at_n, if_pos (by omega)]
    simp only [Option.bind_some]
    rw [if_pos (by omega), if_pos (by omega), if_pos (by omega), e, c_clear_step l f p (by omega), c_inc (n := l.length) (by omega) (by omega), this]
theorem c_ClearCells_spec (l : List Int) (hl : l.length ≤ 1048576) (f z : Int) (hf : f ≤ 9223372036854775807) (k : Nat) (hk : 2 * l.length + 2 ≤ k) : spec_ClearCells.f k l f z = some (c_clear l f z) := by
  obtain ⟨h1, h2, h3⟩ := c_n_le l.length f z
  have := c_clear_spec l hl f z hf (c_n l.length f z) k 0 (by omega) (by omega) (by omega)
  rw [c_clearN_zero] at this
  unfold spec_ClearCells.f
  rw [c_l04Copy l hl]
  exact this

/-! ### sameints -/
theorem c_same_l (l : List Int) (hl : l.length ≤ 9223372036854775807) (d : Nat) : ∀ (k i : Nat), l.length - i = d → i ≤ l.length → d < k → laws_sameInts.l0 k l l i = some true := by
  induction d with
  | zero =>
    intro k i hd hi hk
    obtain ⟨k, rfl⟩ := c_up (k := k) (by omega)
    rw [laws_sameInts.l0, if_neg (by omega)]
  | succ d ih =>
    intro k i hd hi hk
    obtain ⟨k, rfl⟩ := c_up (k := k) (by omega)
    rw [laws_sameInts.l0, if_pos (by omega), if_pos (by omega), if_pos (by omega), if_pos rfl, c_inc (n := l.length) (by omega) hl]
    exact ih k (i + 1) (by omega) (by omega) (by omega)
theorem c_sameInts (l : List Int) (hl : l.length ≤ 9223372036854775807) (k : Nat) (hk : l.length < k) : laws_sameInts.f k l l = some true := by
  unfold laws_sameInts.f
  rw [if_pos rfl]
  exact c_same_l l hl l.length k 0 (by omega) (by omega) hk

/-! ### the law -/
theorem FnRegions : laws_FnRegions.Pure := by
  intro l hl _ _
  unfold maxLen at hl
  by_cases hb : (l.length : Int) > 1048576
  · refine ⟨0, ?_⟩
    unfold laws_FnRegions.f
    rw [c_big]
    simp only [Option.bind_some]
    rw [if_pos (decide_eq_true hb)]
  · obtain ⟨rs, hrl, hrd⟩ := c_DrawRegionsOk l (by omega)
    obtain ⟨a, f, z, hal, hf, had⟩ := c_DrawCellsOf l (by omega)
    have h1 : rs.length * (rs.length + 5) ≤ 5 * 10 := Nat.mul_le_mul hrl (by omega)
    have hc := c_cells_len a f z
    have hcl := c_clear_len a f z
    refine ⟨4001, ?_⟩
    unfold laws_FnRegions.f
    rw [c_big]
    simp only [Option.bind_some]
    rw [if_neg (by rw [decide_eq_true_iff]; exact hb), hrd _ (by omega)]
    simp only [Option.bind_some]
    rw [had _ (by omega)]
    simp only [Option.bind_some]
    rw [c_RegionsOk_impl rs (by omega) _ (by omega), c_RegionsOk_spec rs (by omega) _ (by omega)]
    simp only [Option.bind_some]
    rw [if_pos (beq_self_eq_true _), c_CellsOf_impl a (by omega) f z hf _ (by omega), c_CellsOf_spec a (by omega) f z hf _ (by omega)]
    simp only [Option.bind_some]
    rw [c_sameInts _ (by omega) _ (by omega)]
    simp only [Option.bind_some, if_true]
    rw [c_ClearCells_impl a (by omega) f z hf _ (by omega), c_ClearCells_spec a (by omega) f z hf _ (by omega)]
    simp only [Option.bind_some]
    rw [c_sameInts _ (by omega) _ (by omega)]
    simp only [Option.bind_some, if_true]
    rfl

end Go.Proofs.Yteehopjgmgelnaa.Pure
