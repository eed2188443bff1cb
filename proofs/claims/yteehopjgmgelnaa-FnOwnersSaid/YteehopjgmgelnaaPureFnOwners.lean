/- What one of drawn regions stores changes no cell of another one; cleared, its own are 0, and no others; the regions are right, and not with one of them twice; for every draw (the law itself answers true of one of more than 2^20 bytes). -/
import Derived.Test.YteehopjgmgelnaaMFnOwnersx4
namespace Go.Proofs.Yteehopjgmgelnaa.Pure
open Go.RowKit Go.Proofs.Yteehopjgmgelnaa.PFnOwners Go.Proofs.YteehopjgmgelnaaW.PrintWords Go.Proofs.YteehopjgmgelnaaW.PrintLast
set_option linter.unusedVariables false
set_option linter.unusedSimpArgs false

/-! ### base -/
theorem c_wrap {n : Int} (h0 : -9223372036854775808 ≤ n) (h1 : n ≤ 9223372036854775807) : wrap64 n = n := by unfold wrap64; omega
theorem c_wf {n : Int} (h : (Lit.int .i64 n).wf = true) : -9223372036854775808 ≤ n ∧ n ≤ 9223372036854775807 := by
  simpa [Lit.wf, IntKind.min, IntKind.max, IntKind.signed, IntKind.bits] using h
theorem c_wf32 {n : Int} (h : (Lit.int .u32 n).wf = true) : 0 ≤ n ∧ n ≤ 4294967295 := by
  simpa [Lit.wf, IntKind.min, IntKind.max, IntKind.signed, IntKind.bits] using h
theorem c_up {k : Nat} (h : 0 < k) : ∃ m, k = m + 1 := ⟨k - 1, by omega⟩

/-! ### ints -/
theorem c_rd {l : List Int} {i : Nat} (h : i < l.length) : rd l (i : Int) = l[i]'h := by
  unfold rd
  simp [h]
theorem c_rd_app (pre : List Int) (a : Int) (l : List Int) : rd (pre ++ a :: l) (pre.length : Int) = a := by
  unfold rd
  simp
theorem c_inc {i n : Nat} (h : i < n) (hn : n ≤ 9223372036854775807) : wrap64 ((i : Int) + 1) = ((i + 1 : Nat) : Int) := by rw [c_wrap (by omega) (by omega)]; omega

/-! ### draw -/
structure CSt (l : List Int) (i : Int) : Prop where
  lo : 0 ≤ i
  hi : i ≤ l.length
  sz : l.length ≤ 4611686018427387904
theorem c_and_le (x : Int) : 0 ≤ Go.bits .and .i64 x 255 ∧ Go.bits .and .i64 x 255 ≤ 255 := by
  have h : (BitVec.ofInt 64 x &&& BitVec.ofInt 64 255).toNat ≤ 255 := by
    rw [BitVec.toNat_and]
    exact Nat.le_trans Nat.and_le_right (by decide)
  have e : Go.bits .and .i64 x 255 = IntKind.i64.wrap ((BitVec.ofInt 64 x &&& BitVec.ofInt 64 255).toNat : Int) := rfl
  rw [e, IntKind.wrap_i64]
  omega
theorem c_new (l : List Int) (hl : l.length ≤ 4611686018427387904) (d : Nat) : ∀ (h : Int) (i : Nat), 4000 - i = d → i ≤ l.length → ∃ h', ∀ k, d < k → spec_l01New.l0 k l h i = some (l, 0, h') := by
  induction d with
  | zero =>
    intro h i hd hi
    refine ⟨h, fun k hk => ?_⟩
    obtain ⟨k, rfl⟩ := c_up (k := k) (by omega)
    rw [spec_l01New.l0]
    by_cases h1 : (i : Int) < (l.length : Int)
    · rw [if_pos h1, if_neg (by omega)]
    · rw [if_neg h1]
  | succ d ih =>
    intro h i hd hi
    by_cases h1 : i < l.length
    · obtain ⟨h', hh⟩ := ih (Go.bits .and .i64 (wrap64 ((wrap64 ((wrap64 (h * 131)) + (wrap64 (rd l i)))) + 7)) 1073741823) (i + 1) (by omega) (by omega)
      refine ⟨h', fun k hk => ?_⟩
      obtain ⟨k, rfl⟩ := c_up (k := k) (by omega)
      rw [spec_l01New.l0, if_pos (by omega), if_pos (by omega), if_pos (by omega), c_inc (n := l.length) (by omega) (by omega)]
      exact hh k (by omega)
    · refine ⟨h, fun k hk => ?_⟩
      obtain ⟨k, rfl⟩ := c_up (k := k) (by omega)
      rw [spec_l01New.l0, if_neg (by omega)]
theorem c_l01New (l : List Int) (hl : l.length ≤ 4611686018427387904) : ∃ h, ∀ k, 4000 < k → spec_l01New.f k l = some (l, 0, h) := by
  obtain ⟨h, hh⟩ := c_new l hl 4000 (wrap64 (37101 + (l.length : Int))) 0 rfl (by omega)
  exact ⟨h, fun k hk => by unfold spec_l01New.f; exact hh k hk⟩
theorem c_byte {l : List Int} {i : Int} (h : Int) (s : CSt l i) : ∃ x i' h', spec_l01Byte.f l i h = some (x, i', h') ∧ 0 ≤ x ∧ x ≤ 255 ∧ CSt l i' := by
  unfold spec_l01Byte.f
  have hlo := s.lo
  have hhi := s.hi
  have hsz := s.sz
  by_cases h1 : i < (l.length : Int)
  · rw [if_pos h1, if_pos hlo]
    refine ⟨_, _, _, rfl, (c_and_le _).1, (c_and_le _).2, ?_⟩
    rw [c_wrap (n := i + 1) (by omega) (by omega)]
    exact ⟨by omega, by omega, hsz⟩
  · rw [if_neg h1]
    exact ⟨_, _, _, rfl, (c_and_le _).1, (c_and_le _).2, s⟩
theorem c_below {l : List Int} {i : Int} (h : Int) (s : CSt l i) (n : Int) : ∃ x i' h', spec_l01Below.f l i h n = some (x, i', h') ∧ 0 ≤ x ∧ (0 < n → x < n) ∧ (n ≤ 0 → x = 0) ∧ CSt l i' := by
  unfold spec_l01Below.f
  by_cases h0 : n ≤ 0
  · rw [if_pos h0]
    exact ⟨_, _, _, rfl, by omega, by omega, fun _ => rfl, s⟩
  · rw [if_neg h0]
    by_cases h1 : n ≤ 256
    · obtain ⟨x, i', h', e, hx0, hx1, s'⟩ := c_byte h s
      rw [if_pos h1, e]
      simp only [Option.bind_some]
      rw [if_neg (by omega), Int.tmod_eq_emod_of_nonneg hx0]
      exact ⟨_, _, _, rfl, Int.emod_nonneg _ (by omega), fun _ => Int.emod_lt_of_pos _ (by omega), by omega, s'⟩
    · obtain ⟨x, i1, h1', e1, hx0, hx1, s1⟩ := c_byte h s
      obtain ⟨y, i2, h2', e2, hy0, hy1, s2⟩ := c_byte h1' s1
      obtain ⟨z, i3, h3', e3, hz0, hz1, s3⟩ := c_byte h2' s2
      obtain ⟨w, i4, h4', e4, hw0, hw1, s4⟩ := c_byte h3' s3
      rw [if_neg h1, e1]
      simp only [Option.bind_some]
      rw [e2]
      simp only [Option.bind_some]
      rw [e3]
      simp only [Option.bind_some]
      rw [e4]
      simp only [Option.bind_some]
      rw [if_neg (by omega), c_wrap (n := x * 16777216) (by omega) (by omega), c_wrap (n := y * 65536) (by omega) (by omega), c_wrap (n := z * 256) (by omega) (by omega), c_wrap (n := x * 16777216 + y * 65536) (by omega) (by omega), c_wrap (n := x * 16777216 + y * 65536 + z * 256) (by omega) (by omega), c_wrap (by omega) (by omega), Int.tmod_eq_emod_of_nonneg (by omega)]
      exact ⟨_, _, _, rfl, Int.emod_nonneg _ (by omega), fun _ => Int.emod_lt_of_pos _ (by omega), by omega, s4⟩

/-! ### places -/
theorem c_places_l {l : List Int} (d : Nat) : ∀ (acc : List Int) (j : Nat) (i h : Int), 12 - j = d → j ≤ 12 → acc.length = j → (∀ x ∈ acc, 0 ≤ x ∧ x < 10000) → CSt l i → ∃ p : List Int, p.length = 12 ∧ (∀ x ∈ p, 0 ≤ x ∧ x < 10000) ∧ ∀ k, d < k → spec_DrawPlaces.l0 k acc j l i h = some p := by
  induction d with
  | zero =>
    intro acc j i h hd hj hl hacc s
    refine ⟨acc, by omega, hacc, fun k hk => ?_⟩
    obtain ⟨k, rfl⟩ := c_up (k := k) (by omega)
    rw [spec_DrawPlaces.l0, if_neg (by omega)]
  | succ d ih =>
    intro acc j i h hd hj hl hacc s
    obtain ⟨x, i', h', e, hx0, hx1, _, s'⟩ := c_below h s 10000
    obtain ⟨p, hp1, hp2, hp3⟩ := ih (acc ++ [x]) (j + 1) i' h' (by omega) (by omega) (by rw [List.length_append, List.length_singleton]; omega) (fun y hy => by
      rcases List.mem_append.1 hy with hy | hy
      · exact hacc y hy
      · rw [List.mem_singleton] at hy
        subst hy
        exact ⟨hx0, hx1 (by omega)⟩) s'
    refine ⟨p, hp1, hp2, fun k hk => ?_⟩
    obtain ⟨k, rfl⟩ := c_up (k := k) (by omega)
    rw [spec_DrawPlaces.l0, if_pos (by omega), e]
    simp only [Option.bind_some]
    rw [if_pos (by omega), c_inc (n := 12) (by omega) (by omega)]
    exact hp3 k (by omega)
theorem c_DrawPlaces (l : List Int) (hl : l.length ≤ 4611686018427387904) : ∃ p : List Int, p.length = 12 ∧ (∀ j : Nat, j < 12 → 0 ≤ rd p j ∧ rd p j < 10000) ∧ ∀ k, 4000 < k → spec_DrawPlaces.f k l = some p := by
  obtain ⟨h, hh⟩ := c_l01New l hl
  obtain ⟨x, i', h', e, hx0, hx1, s'⟩ := c_byte (l := l) (i := 0) h ⟨by omega, by omega, hl⟩
  obtain ⟨p, hp1, hp2, hp3⟩ := c_places_l 12 [] 0 i' h' rfl (by omega) rfl (by simp) s'
  refine ⟨p, hp1, fun j hj => ?_, fun k hk => ?_⟩
  · rw [c_rd (by omega)]
    exact hp2 _ (List.getElem_mem _)
  · unfold spec_DrawPlaces.f
    rw [hh k hk]
    simp only [Option.bind_some]
    rw [e]
    simp only [Option.bind_some]
    exact hp3 k (by omega)
theorem c_big (l : List Int) : laws_big.f l = some (decide ((l.length : Int) > 1048576)) := rfl

/-! ### lists -/
theorem c_inc' {i n : Nat} (h : i < n) (hn : n ≤ 9223372036854775807) : wrap64 ((i : Int) + 1) = ((i + 1 : Nat) : Int) := by rw [c_wrap (by omega) (by omega)]; omega

/-! ### within -/
def c_in (n l h : Int) : Bool := decide (l ≤ n) && decide (n ≤ h)
theorem c_in_iff {n l h : Int} : c_in n l h = true ↔ l ≤ n ∧ n ≤ h := by simp [c_in]
theorem c_in_no {n l h : Int} : ¬ c_in n l h = true ↔ n < l ∨ h < n := by rw [c_in_iff]; omega

/-! ### region -/
theorem c_rdR {l : List S32} {i : Nat} (h : i < l.length) : rd_T32 l (i : Int) = l[i]'h := by
  unfold rd_T32
  simp [h]
def c_meet (a b : S32) : Bool := decide (a.f0 < wrap64 (b.f0 + b.f1)) && decide (b.f0 < wrap64 (a.f0 + a.f1))
def c_okR (x : S32) : Bool := c_in x.f0 0 63 && c_in x.f1 1 (64 - x.f0)
def c_regs (n : Nat) : List S32 → List S32 → Bool
  | _, [] => c_in n 1 4
  | pre, x :: l => c_okR x && !(pre.any (c_meet x)) && c_regs n (pre ++ [x]) l
def c_regions (l : List S32) : Bool := c_regs l.length [] l

/-! ### regdraw -/
structure CGood (l : List S32) (start : Int) : Prop where
  each : ∀ x ∈ l, 0 ≤ x.f0 ∧ 1 ≤ x.f1 ∧ x.f1 ≤ 14 ∧ x.f0 + x.f1 ≤ 64 ∧ x.f0 + x.f1 ≤ start
  apart : l.Pairwise fun x y => x.f0 + x.f1 ≤ y.f0
theorem c_good_snoc {l : List S32} {start : Int} (g : CGood l start) (x : S32) (next : Int) (h0 : x.f0 = start) (h1 : 0 ≤ start) (h2 : 1 ≤ x.f1) (h3 : x.f1 ≤ 14) (h4 : x.f0 + x.f1 ≤ 64) (h5 : x.f0 + x.f1 ≤ next) : CGood (l ++ [x]) next where
  each := fun y hy => by
    rcases List.mem_append.1 hy with hy | hy
    · have := g.each y hy
      omega
    · rw [List.mem_singleton] at hy
      subst hy
      omega
  apart := by
    rw [List.pairwise_append]
    refine ⟨g.apart, List.pairwise_singleton _ _, fun y hy z hz => ?_⟩
    rw [List.mem_singleton] at hz
    subst hz
    have := g.each y hy
    omega
theorem c_good_up {l : List S32} {start next : Int} (g : CGood l start) (h : start ≤ next) : CGood l next where
  each := fun y hy => by
    have := g.each y hy
    omega
  apart := g.apart
theorem c_l04Regions_l {l : List Int} (d : Nat) : ∀ (acc : List S32) (start : Int) (j : Nat) (i h : Int), 4 - j = d → j ≤ 4 → acc.length ≤ j → (j ≠ 0 → acc ≠ []) → 0 ≤ start → start ≤ 5 + 16 * (j : Int) → CGood acc start → CSt l i →
    ∃ (r : List S32) (b : Int) (i' h' : Int), r.length ≤ 4 ∧ r ≠ [] ∧ CGood r b ∧ CSt l i' ∧ ∀ k, d < k → spec_l04Regions.l0 k acc start j l i h = some (r, i', h') := by
  induction d with
  | zero =>
    intro acc start j i h hd hj hl hne hs0 hs1 g s
    obtain ⟨x, i1, h1, e1, hx0, hx1, _, s1⟩ := c_below h s 4
    have hx2 := hx1 (by omega)
    refine ⟨acc, start, i1, h1, by omega, hne (by omega), g, s1, fun k hk => ?_⟩
    obtain ⟨k, rfl⟩ := c_up (k := k) (by omega)
    rw [spec_l04Regions.l0, e1]
    simp only [Option.bind_some]
    rw [c_wrap (by omega) (by omega), if_neg (by omega)]
  | succ d ih =>
    intro acc start j i h hd hj hl hne hs0 hs1 g s
    obtain ⟨x, i1, h1, e1, hx0, hx1, _, s1⟩ := c_below h s 4
    have hx2 := hx1 (by omega)
    by_cases hin : (j : Int) < 1 + x
    · obtain ⟨z, i2, h2, e2, hz0, hz1, _, s2⟩ := c_below h1 s1 14
      have hz2 := hz1 (by omega)
      obtain ⟨y, i3, h3, e3, hy0, hy1, _, s3⟩ := c_below h2 s2 3
      have hy2 := hy1 (by omega)
      by_cases hfit : start + (1 + z) ≤ 64
      · obtain ⟨r, b, i', h', q1, q2, q3, q4, q5⟩ := ih (acc ++ [⟨start, 1 + z⟩]) (start + (1 + z) + y) (j + 1) i3 h3 (by omega) (by omega) (by rw [List.length_append, List.length_singleton]; omega) (fun _ => by simp) (by omega) (by omega)
          (c_good_snoc g ⟨start, 1 + z⟩ _ rfl hs0 (by simp only; omega) (by simp only; omega) (by simp only; omega) (by simp only; omega)) s3
        refine ⟨r, b, i', h', q1, q2, q3, q4, fun k hk => ?_⟩
        obtain ⟨k, rfl⟩ := c_up (k := k) (by omega)
        rw [spec_l04Regions.l0, e1]
        simp only [Option.bind_some]
        rw [c_wrap (n := 1 + x) (by omega) (by omega), if_pos hin, e2]
        simp only [Option.bind_some]
        rw [c_wrap (n := 1 + z) (by omega) (by omega), c_wrap (n := start + (1 + z)) (by omega) (by omega), if_pos hfit, if_pos (by omega), e3]
        simp only [Option.bind_some]
        rw [c_wrap (n := start + (1 + z) + y) (by omega) (by omega), c_inc' (n := 4) (by omega) (by omega)]
        exact q5 k (by omega)
      · have hj0 : j ≠ 0 := by omega
        obtain ⟨r, b, i', h', q1, q2, q3, q4, q5⟩ := ih acc (start + (1 + z) + y) (j + 1) i3 h3 (by omega) (by omega) (by omega) (fun _ => hne hj0) (by omega) (by omega) (c_good_up g (by omega)) s3
        refine ⟨r, b, i', h', q1, q2, q3, q4, fun k hk => ?_⟩
        obtain ⟨k, rfl⟩ := c_up (k := k) (by omega)
        rw [spec_l04Regions.l0, e1]
        simp only [Option.bind_some]
        rw [c_wrap (n := 1 + x) (by omega) (by omega), if_pos hin, e2]
        simp only [Option.bind_some]
        rw [c_wrap (n := 1 + z) (by omega) (by omega), c_wrap (n := start + (1 + z)) (by omega) (by omega), if_neg hfit, e3]
        simp only [Option.bind_some]
        rw [c_wrap (n := start + (1 + z) + y) (by omega) (by omega), c_inc' (n := 4) (by omega) (by omega)]
        exact q5 k (by omega)
    · have hj0 : j ≠ 0 := by omega
      refine ⟨acc, start, i1, h1, by omega, hne hj0, g, s1, fun k hk => ?_⟩
      obtain ⟨k, rfl⟩ := c_up (k := k) (by omega)
      rw [spec_l04Regions.l0, e1]
      simp only [Option.bind_some]
      rw [c_wrap (by omega) (by omega), if_neg hin]
theorem c_l04Regions {l : List Int} {i : Int} (h : Int) (s : CSt l i) : ∃ (r : List S32) (b : Int) (i' h' : Int), r.length ≤ 4 ∧ r ≠ [] ∧ CGood r b ∧ CSt l i' ∧ ∀ k, 4 < k → spec_l04Regions.f k l i h = some (r, i', h') := by
  obtain ⟨x, i1, h1, e1, hx0, hx1, _, s1⟩ := c_below h s 6
  have hx2 := hx1 (by omega)
  obtain ⟨r, b, i', h', q1, q2, q3, q4, q5⟩ := c_l04Regions_l 4 [] x 0 i1 h1 rfl (by omega) (by simp) (by simp) hx0 (by omega) ⟨by simp, List.Pairwise.nil⟩ s1
  refine ⟨r, b, i', h', q1, q2, q3, q4, fun k hk => ?_⟩
  unfold spec_l04Regions.f
  rw [e1]
  simp only [Option.bind_some]
  exact q5 k hk
theorem c_DrawRegions (l : List Int) (hl : l.length ≤ 4611686018427387904) : ∃ (r : List S32) (b : Int), r.length ≤ 4 ∧ r ≠ [] ∧ CGood r b ∧ ∀ k, 4000 < k → spec_DrawRegions.f k l = some r := by
  obtain ⟨h, hh⟩ := c_l01New l hl
  obtain ⟨r, b, i', h', q1, q2, q3, q4, q5⟩ := c_l04Regions (l := l) (i := 0) h ⟨by omega, by omega, hl⟩
  refine ⟨r, b, q1, q2, q3, fun k hk => ?_⟩
  unfold spec_DrawRegions.f
  rw [hh k hk]
  simp only [Option.bind_some]
  rw [q5 k (by omega)]
  rfl
theorem c_regs_good (n : Nat) (hn : c_in n 1 4 = true) (l : List S32) : ∀ (pre : List S32) (b : Int), CGood (pre ++ l) b → c_regs n pre l = true := by
  induction l with
  | nil => intro pre b _; exact hn
  | cons x l ih =>
    intro pre b g
    have gx := g.each x (by simp)
    have hap := (List.pairwise_append.1 g.apart).2.2
    have hok : c_okR x = true := by
      unfold c_okR
      rw [Bool.and_eq_true, c_in_iff, c_in_iff]
      omega
    have hany : pre.any (c_meet x) = false := by
      rw [List.any_eq_false]
      intro y hy
      have h1 := hap y hy x (by simp)
      have gy := g.each y (by simp [hy])
      unfold c_meet
      have hw : Aside0 (wrap64 (y.f0 + y.f1) = y.f0 + y.f1) := ⟨c_wrap (by omega) (by omega)⟩
      rw [hw.out, decide_eq_false (by omega)]
      simp
    have := ih (pre ++ [x]) b (by rw [List.append_assoc]; exact g)
    rw [c_regs, hok, hany, this]
    rfl
theorem c_regions_good {l : List S32} {b : Int} (g : CGood l b) (h1 : l.length ≤ 4) (h2 : l ≠ []) : c_regions l = true := by
  have : 0 < l.length := Nat.pos_of_ne_zero (fun h_ => h2 (List.eq_nil_of_length_eq_zero h_))
  exact c_regs_good l.length (c_in_iff.2 ⟨by omega, by omega⟩) l [] b (by simpa using g)

/-! ### cellat -/
def c_at (n : Nat) (f z p : Int) : Int := if 0 ≤ p ∧ p < z ∧ 0 ≤ f ∧ p < (n : Int) - f then f + p else -1
theorem c_at_lt {n : Nat} {f z p : Int} : -1 ≤ c_at n f z p ∧ c_at n f z p < n := by unfold c_at; split <;> omega
theorem c_cellAt (l : List Int) (hl : l.length ≤ 9223372036854775807) (f z p : Int) (hf : f ≤ 9223372036854775807) : impl_cellAt.f l f z p = some (c_at l.length f z p) := by
  unfold impl_cellAt.f c_at
  by_cases h1 : f < 0
  · rw [if_pos h1, if_neg (by omega)]
  · rw [if_neg h1]
    by_cases h2 : p < 0
    · rw [if_pos h2, if_neg (by omega)]
    · rw [if_neg h2]
      by_cases h3 : p ≥ z
      · rw [if_pos h3, if_neg (by omega)]
      · rw [if_neg h3, c_wrap (n := (l.length : Int) - f) (by omega) (by omega)]
        by_cases h4 : p ≥ (l.length : Int) - f
        · rw [if_pos h4, if_neg (by omega)]
        · rw [if_neg h4, if_pos (by omega), c_wrap (by omega) (by omega)]

/-! ### loadcell -/
def c_load (l : List Int) (f z p : Int) : Int × Bool := if c_at l.length f z p < 0 then (0, false) else (rd l (c_at l.length f z p), true)

/-! ### store -/
def c_mod (n : Int) : Int := n % 65536
theorem c_modulo (n : Int) : impl_modulo.f n 65536 = some (c_mod n) := by
  unfold impl_modulo.f c_mod
  have h : -65536 < Int.tmod n 65536 ∧ Int.tmod n 65536 < 65536 := ⟨by have := Int.lt_tmod_of_pos n (b := 65536) (by omega); omega, Int.tmod_lt_of_pos n (by omega)⟩
  have e : (Int.tmod n 65536) % 65536 = n % 65536 := by
    have := Int.tmod_add_mul_tdiv n 65536
    omega
  rw [if_neg (by omega), c_wrap (by omega) (by omega), Int.tmod_eq_emod_of_nonneg (by omega)]
  congr 1
  omega
theorem c_copyInts (l : List Int) (hl : l.length ≤ 1048576) : impl_copyInts.f l = some l := by
  unfold impl_copyInts.f
  simp only [Option.bind_some]
  rw [if_pos (by simp; omega), List.nil_append]
theorem c_copyArena (l : List Int) (hl : l.length ≤ 1048576) : impl_copyArena.f l = some l := by
  unfold impl_copyArena.f
  rw [c_copyInts l hl]
  rfl
def c_store (l : List Int) (f z p n : Int) : List Int × Bool := if c_at l.length f z p < 0 then (l, false) else (l.set (c_at l.length f z p).toNat (c_mod n), true)
theorem c_store_len (l : List Int) (f z p n : Int) : (c_store l f z p n).1.length = l.length := by
  unfold c_store
  split
  · rfl
  · simp
theorem c_StoreCell_impl (l : List Int) (hl : l.length ≤ 1048576) (f z p n : Int) (hf : f ≤ 9223372036854775807) : impl_StoreCell.f l f z p n = some (c_store l f z p n) := by
  unfold impl_StoreCell.f c_store
  rw [c_copyArena l hl]
  simp only [Option.bind_some]
  rw [c_cellAt l (by omega) f z p hf]
  simp only [Option.bind_some]
  obtain ⟨h0, h1⟩ := c_at_lt (n := l.length) (f := f) (z := z) (p := p)
  by_cases h : c_at l.length f z p < 0
  · rw [if_pos h, if_pos h]
  · rw [if_neg h, if_neg h, c_modulo]
    simp only [Option.bind_some]
    rw [if_pos (by omega), if_pos (by omega)]

/-! ### cells -/
def c_n (n : Nat) (f z : Int) : Nat := if 0 ≤ f then (min z ((n : Int) - f)).toNat else 0
theorem c_at_n (n : Nat) (f z : Int) (p : Nat) : c_at n f z (p : Int) = if p < c_n n f z then f + (p : Int) else -1 := by
  unfold c_at c_n
  by_cases h : 0 ≤ f
  · rw [if_pos h]
    split <;> split <;> omega
  · rw [if_neg h, if_neg (by omega), if_neg (by omega)]
theorem c_n_le (n : Nat) (f z : Int) : c_n n f z ≤ n ∧ (c_n n f z : Int) ≤ max z 0 ∧ (0 < c_n n f z → 0 ≤ f ∧ f + (c_n n f z : Int) ≤ n) := by
  unfold c_n
  split <;> omega
def c_cells (l : List Int) (f z : Int) : List Int := (l.drop f.toNat).take (c_n l.length f z)
theorem c_cells_step (l : List Int) (f z : Int) (p : Nat) (h : p < c_n l.length f z) : ((l.drop f.toNat).take p) ++ [rd l (f + (p : Int))] = (l.drop f.toNat).take (p + 1) := by
  obtain ⟨h1, h2, h3⟩ := c_n_le l.length f z
  obtain ⟨h4, h5⟩ := h3 (by omega)
  obtain ⟨g, rfl⟩ := Int.eq_ofNat_of_zero_le h4
  have e : (g : Int) + (p : Int) = ((g + p : Nat) : Int) := by omega
  rw [e, c_rd (by omega), Int.toNat_natCast, List.take_succ_eq_append_getElem (by rw [List.length_drop]; omega), List.getElem_drop]
theorem c_cells_len (l : List Int) (f z : Int) : (c_cells l f z).length ≤ l.length := by
  unfold c_cells
  rw [List.length_take, List.length_drop]
  omega

/-! ### clearcells -/
def c_clearN (l : List Int) (f : Int) (p : Nat) : List Int := l.take f.toNat ++ (List.replicate p 0 ++ l.drop (f.toNat + p))
def c_clear (l : List Int) (f z : Int) : List Int := c_clearN l f (c_n l.length f z)
theorem c_clearN_zero (l : List Int) (f : Int) : c_clearN l f 0 = l := by simp [c_clearN]
theorem c_clearN_len (l : List Int) (f : Int) (p : Nat) (h : f.toNat + p ≤ l.length) : (c_clearN l f p).length = l.length := by
  unfold c_clearN
  rw [List.length_append, List.length_append, List.length_take, List.length_replicate, List.length_drop]
  omega
theorem c_clear_step (l : List Int) (f : Int) (p : Nat) (h : f.toNat + p < l.length) : (c_clearN l f p).set (f.toNat + p) 0 = c_clearN l f (p + 1) := by
  unfold c_clearN
  have hl : (l.take f.toNat).length = f.toNat := by rw [List.length_take]; omega
  rw [List.set_append_right _ _ (by omega), hl, List.set_append_right _ _ (by simp), List.length_replicate, List.drop_eq_getElem_cons h]
  have e : f.toNat + p - f.toNat - p = 0 := by omega
  rw [e, List.set_cons_zero, List.replicate_succ', List.append_assoc]
  rfl
theorem c_clear_len (l : List Int) (f z : Int) : (c_clear l f z).length = l.length := by
  obtain ⟨h1, h2, h3⟩ := c_n_le l.length f z
  rcases Nat.eq_zero_or_pos (c_n l.length f z) with h | h
  · unfold c_clear; rw [h, c_clearN_zero]
  · obtain ⟨h4, h5⟩ := h3 h
    exact c_clearN_len l f _ (by omega)

/-! ### clearcells_i -/
theorem c_clear_impl (l : List Int) (hl : l.length ≤ 1048576) (f z : Int) (hf : f ≤ 9223372036854775807) (d : Nat) : ∀ (k p : Nat), c_n l.length f z - p = d → p ≤ c_n l.length f z → d < k → impl_ClearCells.l0 k p l f z (c_clearN l f p) = some (c_clear l f z) := by
  obtain ⟨h1, h2, h3⟩ := c_n_le l.length f z
  induction d with
  | zero =>
    intro k p hd hp hk
    obtain ⟨k, rfl⟩ := c_up (k := k) (by omega)
    rw [impl_ClearCells.l0, c_cellAt l (by omega) f z p hf, c_at_n, if_neg (by omega)]
    simp only [Option.bind_some]
    rw [if_neg (by omega)]
    have : p = c_n l.length f z := by omega
    rw [this]
    rfl
  | succ d ih =>
    intro k p hd hp hk
    obtain ⟨k, rfl⟩ := c_up (k := k) (by omega)
    obtain ⟨h4, h5⟩ := h3 (by omega)
    have := ih k (p + 1) (by omega) (by omega) (by omega)
    have hlen := c_clearN_len l f p (by omega)
    have e : (f + (p : Int)).toNat = f.toNat + p := by omega
    rw [impl_ClearCells.l0, c_cellAt l (by omega) f z p hf, c_at_n, if_pos (by omega)]
    simp only [Option.bind_some]
    rw [if_pos (by omega), c_wrap (n := f + (p : Int)) (by omega) (by omega), if_pos (by omega), if_pos (by omega), e, c_clear_step l f p (by omega), c_inc (n := l.length) (by omega) (by omega), this]
theorem c_ClearCells_impl (l : List Int) (hl : l.length ≤ 1048576) (f z : Int) (hf : f ≤ 9223372036854775807) (k : Nat) (hk : l.length < k) : impl_ClearCells.f k l f z = some (c_clear l f z) := by
  obtain ⟨h1, h2, h3⟩ := c_n_le l.length f z
  have := c_clear_impl l hl f z hf (c_n l.length f z) k 0 (by omega) (by omega) (by omega)
  rw [c_clearN_zero] at this
  unfold impl_ClearCells.f
  rw [c_copyArena l hl]
  exact this

/-! ### cellsof_i -/
theorem c_cellsOf_impl (l : List Int) (hl : l.length ≤ 1048576) (f z : Int) (hf : f ≤ 9223372036854775807) (d : Nat) : ∀ (k p : Nat), c_n l.length f z - p = d → p ≤ c_n l.length f z → d < k → impl_CellsOf.l0 k ((l.drop f.toNat).take p) p l f z = some (c_cells l f z) := by
  obtain ⟨h1, h2, h3⟩ := c_n_le l.length f z
  induction d with
  | zero =>
    intro k p hd hp hk
    obtain ⟨k, rfl⟩ := c_up (k := k) (by omega)
    rw [impl_CellsOf.l0, c_cellAt l (by omega) f z p hf, c_at_n, if_neg (by omega)]
    simp only [Option.bind_some]
    rw [if_neg (by omega)]
    have : p = c_n l.length f z := by omega
    rw [this]
    rfl
  | succ d ih =>
    intro k p hd hp hk
    obtain ⟨k, rfl⟩ := c_up (k := k) (by omega)
    obtain ⟨h4, h5⟩ := h3 (by omega)
    have hs := c_cells_step l f z p (by omega)
    have := ih k (p + 1) (by omega) (by omega) (by omega)
    rw [← hs] at this
    have q5 : ((l.drop f.toNat).take p).length < 17592186044416 := by rw [List.length_take, List.length_drop]; omega
    rw [impl_CellsOf.l0, c_cellAt l (by omega) f z p hf, c_at_n, if_pos (by omega)]
    simp only [Option.bind_some]
    rw [if_pos (by omega), c_wrap (n := f + (p : Int)) (by omega) (by omega), if_pos (by omega), if_pos (by omega), if_pos q5, c_inc (n := l.length) (by omega) (by omega), this]
theorem c_CellsOf_impl (l : List Int) (hl : l.length ≤ 1048576) (f z : Int) (hf : f ≤ 9223372036854775807) (k : Nat) (hk : l.length < k) : impl_CellsOf.f k l f z = some (c_cells l f z) := by
  obtain ⟨h1, h2, h3⟩ := c_n_le l.length f z
  have := c_cellsOf_impl l hl f z hf (c_n l.length f z) k 0 (by omega) (by omega) (by omega)
  unfold impl_CellsOf.f
  exact this

/-! ### within_i -/
theorem c_within (n l h : Int) : impl_within.f n l h = some (c_in n l h) := by
  unfold impl_within.f c_in
  by_cases h0 : n ≥ l
  · rw [if_pos h0]; simp [h0]
  · rw [if_neg h0]; simp; omega

/-! ### regionsok_i -/
theorem c_regs_in_impl (l : List S32) (hl : l.length ≤ 1048576) (i : Nat) (hi : i ≤ l.length) (x : S32) (e : Nat) : ∀ (k j : Nat), i - j = e → j ≤ i →
    impl_RegionsOk.l1 (k + e + 1) l l (l.length : Int) i (l.take i) ((l.take i).length : Int) j x.f0 x.f1 = if ((l.take i).drop j).any (c_meet x) = true then some false else impl_RegionsOk.l0 k l l (l.length : Int) (wrap64 ((i : Int) + 1)) := by
  have hlen : (l.take i).length = i := by rw [List.length_take]; omega
  induction e with
  | zero =>
    intro k j he hj
    rw [impl_RegionsOk.l1, if_neg (by omega), List.drop_eq_nil_of_le (by omega)]
    rfl
  | succ e ih =>
    intro k j he hj
    have hlt : j < (l.take i).length := by omega
    have hd : (l.take i).drop j = (l.take i)[j]'hlt :: (l.take i).drop (j + 1) := List.drop_eq_getElem_cons hlt
    have e2 : k + (e + 1) + 1 = (k + e + 1) + 1 := by omega
    rw [e2, impl_RegionsOk.l1, if_pos (by omega), if_pos (by omega), if_pos (by omega), c_rdR hlt, c_inc' (i := j) (n := i) (by omega) (by omega), ih k (j + 1) (by omega) (by omega), hd, List.any_cons]
    generalize (l.take i)[j]'hlt = y
    have hm : c_meet x y = (decide (x.f0 < wrap64 (y.f0 + y.f1)) && decide (y.f0 < wrap64 (x.f0 + x.f1))) := rfl
    by_cases h1 : x.f0 < wrap64 (y.f0 + y.f1)
    · rw [if_pos h1]
      by_cases h2 : y.f0 < wrap64 (x.f0 + x.f1)
      · rw [if_pos h2, hm, decide_eq_true h1, decide_eq_true h2]
        rfl
      · rw [if_neg h2, hm, decide_eq_true h1, decide_eq_false h2]
        rfl
    · rw [if_neg h1, hm, decide_eq_false h1]
      rfl
theorem c_okR_iff (x : S32) : c_okR x = true ↔ 0 ≤ x.f0 ∧ 1 ≤ x.f1 ∧ x.f1 ≤ 64 ∧ x.f0 ≤ 64 - x.f1 := by
  unfold c_okR
  rw [Bool.and_eq_true, c_in_iff, c_in_iff]
  omega
theorem c_regs_impl (l : List S32) (hl : l.length ≤ 1048576) (d : Nat) : ∀ (k i : Nat), l.length - i = d → i ≤ l.length → d * (l.length + 5) < k → impl_RegionsOk.l0 k l l (l.length : Int) i = some (c_regs l.length (l.take i) (l.drop i)) := by
  induction d with
  | zero =>
    intro k i hd hi hk
    obtain ⟨k, rfl⟩ := c_up (k := k) (by omega)
    rw [impl_RegionsOk.l0, if_neg (by omega), List.drop_eq_nil_of_le (by omega), c_within]
    rfl
  | succ d ih =>
    intro k i hd hi hk
    rw [Nat.succ_mul] at hk
    obtain ⟨k, rfl⟩ : ∃ m, k = (m + i + 1) + 1 + 1 := ⟨k - i - 3, by omega⟩
    have hdr : l.drop i = l[i]'(by omega) :: l.drop (i + 1) := List.drop_eq_getElem_cons (by omega)
    have htk : l.take (i + 1) = l.take i ++ [l[i]'(by omega)] := List.take_succ_eq_append_getElem (by omega)
    have hrec := ih k (i + 1) (by omega) (by omega) (by omega)
    have hin := c_regs_in_impl l hl i hi (l[i]'(by omega)) i k 0 (by omega) (by omega)
    rw [c_inc' (i := i) (n := l.length) (by omega) (by omega), hrec, htk, List.drop_zero] at hin
    have e0 : ((0 : Nat) : Int) = 0 := rfl
    rw [e0] at hin
    rw [impl_RegionsOk.l0, if_pos (by omega), if_pos (by omega), if_pos (by omega), c_rdR (by omega), hdr, c_regs]
    generalize l[i]'(by omega) = x at *
    have hok := c_okR_iff x
    have yes : impl_RegionsOk.j1 (k + i + 1 + 1) l i l (l.length : Int) i true x.f0 x.f1 = some false := by rw [impl_RegionsOk.j1, if_pos rfl]
    by_cases h1 : x.f0 < 0
    · rw [if_pos h1, yes]
      have : c_okR x = false := by rw [Bool.eq_false_iff]; intro h; have := hok.1 h; omega
      rw [this]; rfl
    · rw [if_neg h1]
      by_cases h2 : x.f1 < 1
      · rw [if_pos h2, yes]
        have : c_okR x = false := by rw [Bool.eq_false_iff]; intro h; have := hok.1 h; omega
        rw [this]; rfl
      · rw [if_neg h2]
        by_cases h3 : x.f1 > 64
        · rw [if_pos h3, yes]
          have : c_okR x = false := by rw [Bool.eq_false_iff]; intro h; have := hok.1 h; omega
          rw [this]; rfl
        · rw [if_neg h3, c_wrap (n := 64 - x.f1) (by omega) (by omega)]
          by_cases h4 : x.f0 > 64 - x.f1
          · rw [decide_eq_true h4, yes]
            have : c_okR x = false := by rw [Bool.eq_false_iff]; intro h; have := hok.1 h; omega
            rw [this]; rfl
          · have hy : c_okR x = true := hok.2 (by omega)
            rw [decide_eq_false h4, impl_RegionsOk.j1, if_neg (by decide), if_pos (by omega), if_pos (by omega), Int.toNat_natCast]
            simp only [Option.bind_some]
            rw [hin, hy]
            cases (l.take i).any (c_meet x) <;> simp
theorem c_RegionsOk_impl (l : List S32) (hl : l.length ≤ 1048576) (k : Nat) (hk : l.length * (l.length + 5) < k) : impl_RegionsOk.f k l = some (c_regions l) := by
  have := c_regs_impl l hl l.length k 0 (by omega) (by omega) hk
  simpa [impl_RegionsOk.f, c_regions] using this

/-! ### sameints -/
theorem c_same_l (l : List Int) (hl : l.length ≤ 9223372036854775807) (d : Nat) : ∀ (k i : Nat), l.length - i = d → i ≤ l.length → d < k → laws_sameInts.l0 k l l i = some true := by
  induction d with
  | zero =>
    intro k i hd hi hk
    obtain ⟨k, rfl⟩ := c_up (k := k) (by omega)
    rw [laws_sameInts.l0, if_neg (by omega)]
  | succ d ih =>
    intro k i hd hi hk
    obtain ⟨k, rfl⟩ := c_up (k := k) (by omega)
    rw [laws_sameInts.l0, if_pos (by omega), if_pos (by omega), if_pos (by omega), if_pos rfl, c_inc (n := l.length) (by omega) hl]
    exact ih k (i + 1) (by omega) (by omega) (by omega)
theorem c_sameInts (l : List Int) (hl : l.length ≤ 9223372036854775807) (k : Nat) (hk : l.length < k) : laws_sameInts.f k l l = some true := by
  unfold laws_sameInts.f
  rw [if_pos rfl]
  exact c_same_l l hl l.length k 0 (by omega) (by omega) hk

/-! ### the law -/
theorem c_regs_twice (n : Nat) (x : S32) (hx : c_meet x x = true) (l : List S32) : ∀ pre : List S32, x ∈ pre ++ l → c_regs n pre (l ++ [x]) = false := by
  induction l with
  | nil =>
    intro pre h
    rw [List.append_nil] at h
    have : pre.any (c_meet x) = true := List.any_eq_true.2 ⟨x, h, hx⟩
    rw [List.nil_append, c_regs, this]
    simp
  | cons y l ih =>
    intro pre h
    have := ih (pre ++ [y]) (by rw [List.append_assoc]; exact h)
    rw [List.cons_append, c_regs, this]
    simp
theorem c_regions_twice (l : List S32) (x : S32) (h : x ∈ l) (h0 : 0 ≤ x.f0) (h1 : 1 ≤ x.f1) (h2 : x.f0 + x.f1 ≤ 64) : c_regions (l ++ [x]) = false := by
  unfold c_regions
  refine c_regs_twice _ x ?_ l [] (by simpa using h)
  unfold c_meet
  rw [c_wrap (by omega) (by omega), decide_eq_true (by omega)]
  rfl
theorem c_n_good {f z : Int} (h0 : 0 ≤ f) (h1 : 1 ≤ z) (h2 : f + z ≤ 64) : c_n 64 f z = z.toNat := by
  unfold c_n
  rw [if_pos h0]
  omega
theorem c_cells_good (l : List Int) (hl : l.length = 64) {f z : Int} (h0 : 0 ≤ f) (h1 : 1 ≤ z) (h2 : f + z ≤ 64) : c_cells l f z = (l.drop f.toNat).take z.toNat := by
  unfold c_cells
  rw [hl, c_n_good h0 h1 h2]
theorem c_cells_good_len (l : List Int) (hl : l.length = 64) {f z : Int} (h0 : 0 ≤ f) (h1 : 1 ≤ z) (h2 : f + z ≤ 64) : (c_cells l f z).length = z.toNat := by
  rw [c_cells_good l hl h0 h1 h2, List.length_take, List.length_drop, hl]
  omega
theorem c_clear_good (l : List Int) (hl : l.length = 64) {f z : Int} (h0 : 0 ≤ f) (h1 : 1 ≤ z) (h2 : f + z ≤ 64) : c_clear l f z = l.take f.toNat ++ (List.replicate z.toNat 0 ++ l.drop (f.toNat + z.toNat)) := by
  unfold c_clear c_clearN
  rw [hl, c_n_good h0 h1 h2]
theorem c_own_zero (l : List Int) (hl : l.length = 64) {f z : Int} (h0 : 0 ≤ f) (h1 : 1 ≤ z) (h2 : f + z ≤ 64) : c_cells (c_clear l f z) f z = List.replicate z.toNat 0 := by
  have hc := c_clear_len l f z
  have ht : (l.take f.toNat).length = f.toNat := by rw [List.length_take]; omega
  rw [c_cells_good _ (by omega) h0 h1 h2, c_clear_good l hl h0 h1 h2]
  have hd : (l.take f.toNat ++ (List.replicate z.toNat 0 ++ l.drop (f.toNat + z.toNat))).drop f.toNat = List.replicate z.toNat 0 ++ l.drop (f.toNat + z.toNat) := by
    conv => lhs; rw [← ht]
    rw [ht, List.drop_append_of_le_length (by omega), List.drop_of_length_le (by omega), List.nil_append]
  rw [hd, List.take_append_of_le_length (by rw [List.length_replicate]; exact Nat.le_refl _), List.take_of_length_le (by rw [List.length_replicate]; exact Nat.le_refl _)]
theorem c_other (l : List Int) (hl : l.length = 64) {f z g y : Int} (h0 : 0 ≤ f) (h1 : 1 ≤ z) (h2 : f + z ≤ 64) (g0 : 0 ≤ g) (g1 : 1 ≤ y) (g2 : g + y ≤ 64) (hd : g + y ≤ f ∨ f + z ≤ g) : c_cells (c_clear l f z) g y = c_cells l g y := by
  have hc := c_clear_len l f z
  rw [c_cells_good _ (by omega) g0 g1 g2, c_cells_good l hl g0 g1 g2, c_clear_good l hl h0 h1 h2]
  apply List.ext_getElem?
  intro i
  rw [List.getElem?_take, List.getElem?_take]
  by_cases hi : i < y.toNat
  · rw [if_pos hi, if_pos hi, List.getElem?_drop, List.getElem?_drop]
    have ht : (l.take f.toNat).length = f.toNat := by rw [List.length_take]; omega
    rcases hd with hd | hd
    · rw [List.getElem?_append_left (by rw [ht]; omega), List.getElem?_take, if_pos (by omega)]
    · rw [List.getElem?_append_right (by rw [ht]; omega), ht, List.getElem?_append_right (by rw [List.length_replicate]; omega), List.length_replicate, List.getElem?_drop]
      congr 1
      omega
  · rw [if_neg hi, if_neg hi]
theorem c_own_l2 (rs : List S32) (a b : List Int) (i m : Nat) (r : Option Bool) (k : Nat) (hr : laws_FnOwners.l1 k rs i (wrap64 ((i : Int) + 1)) a b = r) (hm : m ≤ 64) (q : Nat) : ∀ j : Nat, m - j = q → j ≤ m → laws_FnOwners.l2 (k + 2 * q + 2) rs i i (List.replicate m 0) j a b = r := by
  induction q with
  | zero =>
    intro j hj hjm
    have e : k + 2 * 0 + 2 = k + 1 + 1 := by omega
    rw [e, laws_FnOwners.l2, if_neg (by rw [List.length_replicate]; omega), laws_FnOwners.j4, if_neg (by decide)]
    exact hr
  | succ q ih =>
    intro j hj hjm
    have e : k + 2 * (q + 1) + 2 = (k + 2 * q + 2) + 1 + 1 := by omega
    have hrd : rd (List.replicate m (0 : Int)) (j : Int) = 0 := by
      rw [c_rd (by rw [List.length_replicate]; omega)]
      simp
    rw [e, laws_FnOwners.l2, if_pos (by rw [List.length_replicate]; omega), beq_self_eq_true, laws_FnOwners.j4, if_pos rfl, if_pos (by omega), if_pos (by rw [List.length_replicate]; omega), if_pos hrd, c_inc (n := 9223372036854775807) (by omega) (by omega)]
    exact ih (j + 1) (by omega) (by omega)
theorem c_own_l1 (rs : List S32) (bd : Int) (good : CGood rs bd) (hn : rs.length ≤ 4) (hne : rs ≠ []) (a : List Int) (ha : a.length = 64) (m : Nat) (hm : m < rs.length) (d : Nat) : ∀ (k i : Nat), rs.length - i = d → i ≤ rs.length → 200 * (d + 1) ≤ k →
    laws_FnOwners.l1 k rs m i a (c_clear a (rs[m]'hm).f0 (rs[m]'hm).f1) = some true := by
  have gm := good.each _ (List.getElem_mem hm)
  have hbl := c_clear_len a (rs[m]'hm).f0 (rs[m]'hm).f1
  induction d with
  | zero =>
    intro k i hd hi hk
    obtain ⟨k, rfl⟩ := c_up (k := k) (by omega)
    have h5 : rs.length * (rs.length + 5) ≤ 4 * 9 := Nat.mul_le_mul hn (by omega)
    have h6 : (rs ++ [rs[m]'hm]).length = rs.length + 1 := by simp
    have h7 : (rs.length + 1) * (rs.length + 1 + 5) ≤ 5 * 10 := Nat.mul_le_mul (by omega) (by omega)
    rw [laws_FnOwners.l1, if_neg (by omega), c_RegionsOk_impl rs (by omega) k (by omega), Option.bind_some, c_regions_good good hn hne, if_pos rfl, Option.bind_some, if_pos (by simp; omega), Option.bind_some, if_pos (by omega), if_pos (by omega), Option.bind_some, c_rdR hm, List.nil_append, if_pos (by simp; omega),
      c_RegionsOk_impl _ (by simp; omega) k (by rw [h6]; omega), Option.bind_some, c_regions_twice rs (rs[m]'hm) (List.getElem_mem hm) gm.1 gm.2.1 gm.2.2.2.1]
    rfl
  | succ d ih =>
    intro k i hd hi hk
    have hi' : i < rs.length := by omega
    have gi := good.each _ (List.getElem_mem hi')
    have hrec := fun k hk => ih k (i + 1) (by omega) (by omega) hk
    obtain ⟨k, rfl⟩ : ∃ j, k = j + 2 := ⟨k - 2, by omega⟩
    have hlen := c_cells_good_len a ha gi.1 gi.2.1 gi.2.2.2.1
    rw [laws_FnOwners.l1, if_pos (by omega), if_pos (by omega), c_rdR hi', c_CellsOf_impl a (by omega) _ _ (by omega) _ (by omega), Option.bind_some, c_CellsOf_impl _ (by omega) _ _ (by omega) _ (by omega), Option.bind_some, if_pos (by omega)]
    by_cases hmi : i = m
    · subst hmi
      rw [if_pos rfl, laws_FnOwners.j2, if_neg (by decide), c_own_zero a ha gi.1 gi.2.1 gi.2.2.2.1]
      have hk2 : k = (k - 2 * (rs[i]'hi').f1.toNat - 2) + 2 * (rs[i]'hi').f1.toNat + 2 := by omega
      rw [hk2]
      refine c_own_l2 rs a _ i (rs[i]'hi').f1.toNat (some true) _ ?_ (by omega) (rs[i]'hi').f1.toNat 0 (by omega) (by omega)
      rw [c_inc (n := 9223372036854775807) (by omega) (by omega)]
      exact hrec _ (by omega)
    · have hap : (rs[i]'hi').f0 + (rs[i]'hi').f1 ≤ (rs[m]'hm).f0 ∨ (rs[m]'hm).f0 + (rs[m]'hm).f1 ≤ (rs[i]'hi').f0 := by
        have hp := List.pairwise_iff_getElem.1 good.apart
        rcases Nat.lt_or_gt_of_ne hmi with h | h
        · exact .inl (hp i m hi' hm h)
        · exact .inr (hp m i hm hi' h)
      rw [if_neg (by omega), c_other a ha gm.1 gm.2.1 gm.2.2.2.1 gi.1 gi.2.1 gi.2.2.2.1 hap, c_sameInts _ (by omega) _ (by omega), Option.bind_some, laws_FnOwners.j2, if_neg (by decide)]
      obtain ⟨k, rfl⟩ : ∃ j, k = j + 2 := ⟨k - 2, by omega⟩
      have hbeq : ((i : Int) == (m : Int)) = false := by rw [beq_eq_false_iff_ne]; omega
      rw [laws_FnOwners.l2, hbeq]
      split
      · rw [laws_FnOwners.j4, if_neg (by decide), c_inc (n := 9223372036854775807) (by omega) (by omega)]
        exact hrec _ (by omega)
      · rw [laws_FnOwners.j4, if_neg (by decide), c_inc (n := 9223372036854775807) (by omega) (by omega)]
        exact hrec _ (by omega)
theorem c_own_tmod {a : Int} (h0 : 0 ≤ a) {n : Nat} (hn : 0 < n) : ∃ m : Nat, m < n ∧ Int.tmod a (n : Int) = (m : Int) := by
  rw [Int.tmod_eq_emod_of_nonneg h0]
  have h1 := Int.emod_nonneg a (show (n : Int) ≠ 0 by omega)
  have h2 := Int.emod_lt_of_pos a (show (0 : Int) < (n : Int) by omega)
  exact ⟨(a % (n : Int)).toNat, by omega, by omega⟩
theorem c_own_l0 (rs : List S32) (bd : Int) (good : CGood rs bd) (hn : rs.length ≤ 4) (hne : rs ≠ []) (p : List Int) (hp : p.length = 12) (hr : ∀ j : Nat, j < 12 → 0 ≤ rd p j ∧ rd p j < 10000) (d : Nat) : ∀ (k j : Nat) (a : List Int), 8 - j = d → j ≤ 8 → a.length = 64 → 1100 + d ≤ k → laws_FnOwners.l0 k rs p j a = some true := by
  have hpos : 0 < rs.length := List.length_pos_iff.2 hne
  induction d with
  | zero =>
    intro k j a hd hj ha hk
    obtain ⟨k, rfl⟩ := c_up (k := k) (by omega)
    have h9 : 0 ≤ rd p 9 ∧ rd p 9 < 10000 := hr 9 (by omega)
    obtain ⟨m, hm, e⟩ := c_own_tmod h9.1 hpos
    have gm := good.each _ (List.getElem_mem hm)
    rw [laws_FnOwners.l0, if_neg (by omega), if_pos (by omega), if_neg (by omega), e, if_pos (by omega), if_pos (by omega), c_rdR hm, c_ClearCells_impl a (by omega) _ _ (by omega) k (by omega), Option.bind_some]
    exact c_own_l1 rs bd good hn hne a ha m hm rs.length k 0 (by omega) (by omega) (by omega)
  | succ d ih =>
    intro k j a hd hj ha hk
    obtain ⟨k, rfl⟩ := c_up (k := k) (by omega)
    have hpj := hr j (by omega)
    obtain ⟨m, hm, e⟩ := c_own_tmod hpj.1 hpos
    have gm := good.each _ (List.getElem_mem hm)
    rw [laws_FnOwners.l0, if_pos (by omega), if_pos (by omega), if_pos (by omega), if_neg (by omega), e, if_pos (by omega), if_pos (by omega), c_rdR hm, if_neg (by omega), c_StoreCell_impl a (by omega) _ _ _ _ (by omega), Option.bind_some, c_inc (n := 9223372036854775807) (by omega) (by omega)]
    exact ih k (j + 1) _ (by omega) (by omega) (by rw [c_store_len]; exact ha) (by omega)
theorem c_arenaNew : impl_ArenaNew.f = some (List.replicate 64 0) := rfl
theorem FnOwners : laws_FnOwners.Pure := by
  intro l hl _ _
  unfold maxLen at hl
  by_cases hb : (l.length : Int) > 1048576
  · refine ⟨0, ?_⟩
    unfold laws_FnOwners.f
    rw [c_big, Option.bind_some, if_pos (decide_eq_true hb)]
  · obtain ⟨p, hp, hr, hpl⟩ := c_DrawPlaces l (by omega)
    obtain ⟨rs, bd, hrl, hrn, good, hrd⟩ := c_DrawRegions l (by omega)
    refine ⟨5000, ?_⟩
    unfold laws_FnOwners.f
    rw [c_big, Option.bind_some, if_neg (by rw [decide_eq_true_iff]; exact hb), hrd _ (by omega), Option.bind_some, hpl _ (by omega), Option.bind_some, c_arenaNew, Option.bind_some]
    exact c_own_l0 rs bd good hrl hrn p hp hr 8 5000 0 _ rfl (by omega) (by rw [List.length_replicate]) (by omega)

end Go.Proofs.Yteehopjgmgelnaa.Pure
