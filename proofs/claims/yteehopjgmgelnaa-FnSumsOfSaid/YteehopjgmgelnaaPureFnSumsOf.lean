/- Two numbers that are put and reckoned with are their sum, difference, product, quotient and order, modulo Word, for every draw (the law itself answers true of one of more than 2^20 bytes). -/
import Derived.Test.YteehopjgmgelnaaMFnSumsOfx6
namespace Go.Proofs.Yteehopjgmgelnaa.Pure
open Go.RowKit Go.Proofs.Yteehopjgmgelnaa.PFnSumsOf Go.Proofs.YteehopjgmgelnaaW.PrintWords Go.Proofs.YteehopjgmgelnaaW.PrintLast
set_option linter.unusedVariables false
set_option linter.unusedSimpArgs false

/-! ### base -/
theorem c_wrap {n : Int} (h0 : -9223372036854775808 ≤ n) (h1 : n ≤ 9223372036854775807) : wrap64 n = n := by unfold wrap64; omega
theorem c_wf {n : Int} (h : (Lit.int .i64 n).wf = true) : -9223372036854775808 ≤ n ∧ n ≤ 9223372036854775807 := by
  simpa [Lit.wf, IntKind.min, IntKind.max, IntKind.signed, IntKind.bits] using h
theorem c_wf32 {n : Int} (h : (Lit.int .u32 n).wf = true) : 0 ≤ n ∧ n ≤ 4294967295 := by
  simpa [Lit.wf, IntKind.min, IntKind.max, IntKind.signed, IntKind.bits] using h
theorem c_up {k : Nat} (h : 0 < k) : ∃ m, k = m + 1 := ⟨k - 1, by omega⟩

/-! ### ints -/
theorem c_rd {l : List Int} {i : Nat} (h : i < l.length) : rd l (i : Int) = l[i]'h := by
  unfold rd
  simp [h]
theorem c_rd_app (pre : List Int) (a : Int) (l : List Int) : rd (pre ++ a :: l) (pre.length : Int) = a := by
  unfold rd
  simp
theorem c_inc {i n : Nat} (h : i < n) (hn : n ≤ 9223372036854775807) : wrap64 ((i : Int) + 1) = ((i + 1 : Nat) : Int) := by rw [c_wrap (by omega) (by omega)]; omega

/-! ### draw -/
structure CSt (l : List Int) (i : Int) : Prop where
  lo : 0 ≤ i
  hi : i ≤ l.length
  sz : l.length ≤ 4611686018427387904
theorem c_and_le (x : Int) : 0 ≤ Go.bits .and .i64 x 255 ∧ Go.bits .and .i64 x 255 ≤ 255 := by
  have h : (BitVec.ofInt 64 x &&& BitVec.ofInt 64 255).toNat ≤ 255 := by
    rw [BitVec.toNat_and]
    exact Nat.le_trans Nat.and_le_right (by decide)
  have e : Go.bits .and .i64 x 255 = IntKind.i64.wrap ((BitVec.ofInt 64 x &&& BitVec.ofInt 64 255).toNat : Int) := rfl
  rw [e, IntKind.wrap_i64]
  omega
theorem c_new (l : List Int) (hl : l.length ≤ 4611686018427387904) (d : Nat) : ∀ (h : Int) (i : Nat), 4000 - i = d → i ≤ l.length → ∃ h', ∀ k, d < k → spec_l01New.l0 k l h i = some (l, 0, h') := by
  induction d with
  | zero =>
    intro h i hd hi
    refine ⟨h, fun k hk => ?_⟩
    obtain ⟨k, rfl⟩ := c_up (k := k) (by omega)
    rw [spec_l01New.l0]
    by_cases h1 : (i : Int) < (l.length : Int)
    · rw [if_pos h1, if_neg (by omega)]
    · rw [if_neg h1]
  | succ d ih =>
    intro h i hd hi
    by_cases h1 : i < l.length
    · obtain ⟨h', hh⟩ := ih (Go.bits .and .i64 (wrap64 ((wrap64 ((wrap64 (h * 131)) + (wrap64 (rd l i)))) + 7)) 1073741823) (i + 1) (by omega) (by omega)
      refine ⟨h', fun k hk => ?_⟩
      obtain ⟨k, rfl⟩ := c_up (k := k) (by omega)
      rw [spec_l01New.l0, if_pos (by omega), if_pos (by omega), if_pos (by omega), c_inc (n := l.length) (by omega) (by omega)]
      exact hh k (by omega)
    · refine ⟨h, fun k hk => ?_⟩
      obtain ⟨k, rfl⟩ := c_up (k := k) (by omega)
      rw [spec_l01New.l0, if_neg (by omega)]
theorem c_l01New (l : List Int) (hl : l.length ≤ 4611686018427387904) : ∃ h, ∀ k, 4000 < k → spec_l01New.f k l = some (l, 0, h) := by
  obtain ⟨h, hh⟩ := c_new l hl 4000 (wrap64 (37101 + (l.length : Int))) 0 rfl (by omega)
  exact ⟨h, fun k hk => by unfold spec_l01New.f; exact hh k hk⟩
theorem c_byte {l : List Int} {i : Int} (h : Int) (s : CSt l i) : ∃ x i' h', spec_l01Byte.f l i h = some (x, i', h') ∧ 0 ≤ x ∧ x ≤ 255 ∧ CSt l i' := by
  unfold spec_l01Byte.f
  have hlo := s.lo
  have hhi := s.hi
  have hsz := s.sz
  by_cases h1 : i < (l.length : Int)
  · rw [if_pos h1, if_pos hlo]
    refine ⟨_, _, _, rfl, (c_and_le _).1, (c_and_le _).2, ?_⟩
    rw [c_wrap (n := i + 1) (by omega) (by omega)]
    exact ⟨by omega, by omega, hsz⟩
  · rw [if_neg h1]
    exact ⟨_, _, _, rfl, (c_and_le _).1, (c_and_le _).2, s⟩
theorem c_below {l : List Int} {i : Int} (h : Int) (s : CSt l i) (n : Int) : ∃ x i' h', spec_l01Below.f l i h n = some (x, i', h') ∧ 0 ≤ x ∧ (0 < n → x < n) ∧ (n ≤ 0 → x = 0) ∧ CSt l i' := by
  unfold spec_l01Below.f
  by_cases h0 : n ≤ 0
  · rw [if_pos h0]
    exact ⟨_, _, _, rfl, by omega, by omega, fun _ => rfl, s⟩
  · rw [if_neg h0]
    by_cases h1 : n ≤ 256
    · obtain ⟨x, i', h', e, hx0, hx1, s'⟩ := c_byte h s
      rw [if_pos h1, e]
      simp only [Option.bind_some]
      rw [if_neg (by omega), Int.tmod_eq_emod_of_nonneg hx0]
      exact ⟨_, _, _, rfl, Int.emod_nonneg _ (by omega), fun _ => Int.emod_lt_of_pos _ (by omega), by omega, s'⟩
    · obtain ⟨x, i1, h1', e1, hx0, hx1, s1⟩ := c_byte h s
      obtain ⟨y, i2, h2', e2, hy0, hy1, s2⟩ := c_byte h1' s1
      obtain ⟨z, i3, h3', e3, hz0, hz1, s3⟩ := c_byte h2' s2
      obtain ⟨w, i4, h4', e4, hw0, hw1, s4⟩ := c_byte h3' s3
      rw [if_neg h1, e1]
      simp only [Option.bind_some]
      rw [e2]
      simp only [Option.bind_some]
      rw [e3]
      simp only [Option.bind_some]
      rw [e4]
      simp only [Option.bind_some]
      rw [if_neg (by omega), c_wrap (n := x * 16777216) (by omega) (by omega), c_wrap (n := y * 65536) (by omega) (by omega), c_wrap (n := z * 256) (by omega) (by omega), c_wrap (n := x * 16777216 + y * 65536) (by omega) (by omega), c_wrap (n := x * 16777216 + y * 65536 + z * 256) (by omega) (by omega), c_wrap (by omega) (by omega), Int.tmod_eq_emod_of_nonneg (by omega)]
      exact ⟨_, _, _, rfl, Int.emod_nonneg _ (by omega), fun _ => Int.emod_lt_of_pos _ (by omega), by omega, s4⟩

/-! ### places -/
theorem c_places_l {l : List Int} (d : Nat) : ∀ (acc : List Int) (j : Nat) (i h : Int), 12 - j = d → j ≤ 12 → acc.length = j → (∀ x ∈ acc, 0 ≤ x ∧ x < 10000) → CSt l i → ∃ p : List Int, p.length = 12 ∧ (∀ x ∈ p, 0 ≤ x ∧ x < 10000) ∧ ∀ k, d < k → spec_DrawPlaces.l0 k acc j l i h = some p := by
  induction d with
  | zero =>
    intro acc j i h hd hj hl hacc s
    refine ⟨acc, by omega, hacc, fun k hk => ?_⟩
    obtain ⟨k, rfl⟩ := c_up (k := k) (by omega)
    rw [spec_DrawPlaces.l0, if_neg (by omega)]
  | succ d ih =>
    intro acc j i h hd hj hl hacc s
    obtain ⟨x, i', h', e, hx0, hx1, _, s'⟩ := c_below h s 10000
    obtain ⟨p, hp1, hp2, hp3⟩ := ih (acc ++ [x]) (j + 1) i' h' (by omega) (by omega) (by rw [List.length_append, List.length_singleton]; omega) (fun y hy => by
      rcases List.mem_append.1 hy with hy | hy
      · exact hacc y hy
      · rw [List.mem_singleton] at hy
        subst hy
        exact ⟨hx0, hx1 (by omega)⟩) s'
    refine ⟨p, hp1, hp2, fun k hk => ?_⟩
    obtain ⟨k, rfl⟩ := c_up (k := k) (by omega)
    rw [spec_DrawPlaces.l0, if_pos (by omega), e]
    simp only [Option.bind_some]
    rw [if_pos (by omega), c_inc (n := 12) (by omega) (by omega)]
    exact hp3 k (by omega)
theorem c_DrawPlaces (l : List Int) (hl : l.length ≤ 4611686018427387904) : ∃ p : List Int, p.length = 12 ∧ (∀ j : Nat, j < 12 → 0 ≤ rd p j ∧ rd p j < 10000) ∧ ∀ k, 4000 < k → spec_DrawPlaces.f k l = some p := by
  obtain ⟨h, hh⟩ := c_l01New l hl
  obtain ⟨x, i', h', e, hx0, hx1, s'⟩ := c_byte (l := l) (i := 0) h ⟨by omega, by omega, hl⟩
  obtain ⟨p, hp1, hp2, hp3⟩ := c_places_l 12 [] 0 i' h' rfl (by omega) rfl (by simp) s'
  refine ⟨p, hp1, fun j hj => ?_, fun k hk => ?_⟩
  · rw [c_rd (by omega)]
    exact hp2 _ (List.getElem_mem _)
  · unfold spec_DrawPlaces.f
    rw [hh k hk]
    simp only [Option.bind_some]
    rw [e]
    simp only [Option.bind_some]
    exact hp3 k (by omega)
theorem c_big (l : List Int) : laws_big.f l = some (decide ((l.length : Int) > 1048576)) := rfl

/-! ### lists -/
theorem c_inc' {i n : Nat} (h : i < n) (hn : n ≤ 9223372036854775807) : wrap64 ((i : Int) + 1) = ((i + 1 : Nat) : Int) := by rw [c_wrap (by omega) (by omega)]; omega

/-! ### within -/
def c_in (n l h : Int) : Bool := decide (l ≤ n) && decide (n ≤ h)
theorem c_in_iff {n l h : Int} : c_in n l h = true ↔ l ≤ n ∧ n ≤ h := by simp [c_in]
theorem c_in_no {n l h : Int} : ¬ c_in n l h = true ↔ n < l ∨ h < n := by rw [c_in_iff]; omega

/-! ### instr -/
theorem c_rdI {l : List S64} {i : Nat} (h : i < l.length) : rd_T64 l (i : Int) = l[i]'h := by
  unfold rd_T64
  simp [h]
def c_okI (x : S64) : Bool := c_in x.f0 0 255 && c_in x.f1 0 255
def c_codeOk (l : List S64) : Bool := l.all c_okI && decide (l.length ≤ 60)

/-! ### within_i -/
theorem c_within (n l h : Int) : impl_within.f n l h = some (c_in n l h) := by
  unfold impl_within.f c_in
  by_cases h0 : n ≥ l
  · rw [if_pos h0]; simp [h0]
  · rw [if_neg h0]; simp; omega

/-! ### codeok -/
theorem c_codeOk_impl (l : List S64) (hl : l.length ≤ 1048576) (d : Nat) : ∀ (k i : Nat), l.length - i = d → i ≤ l.length → d < k → impl_CodeOk.l0 k l l (l.length : Int) i = some ((l.drop i).all c_okI && decide (l.length ≤ 60)) := by
  induction d with
  | zero =>
    intro k i hd hi hk
    obtain ⟨k, rfl⟩ := c_up (k := k) (by omega)
    rw [impl_CodeOk.l0, if_neg (by omega), List.drop_eq_nil_of_le (by omega)]
    simp
    omega
  | succ d ih =>
    intro k i hd hi hk
    obtain ⟨k, rfl⟩ := c_up (k := k) (by omega)
    have hd' : l.drop i = l[i]'(by omega) :: l.drop (i + 1) := List.drop_eq_getElem_cons (by omega)
    rw [impl_CodeOk.l0, if_pos (by omega), if_pos (by omega), if_pos (by omega), c_rdI (by omega), c_within, c_within, c_inc' (n := l.length) (by omega) (by omega), ih k (i + 1) (by omega) (by omega) (by omega), hd', List.all_cons]
    simp only [Option.bind_some, c_okI]
    cases c_in (l[i]'(by omega)).f0 0 255 <;> cases c_in (l[i]'(by omega)).f1 0 255 <;> simp
theorem c_CodeOk_impl (l : List S64) (hl : l.length ≤ 1048576) (k : Nat) (hk : l.length < k) : impl_CodeOk.f k l = some (c_codeOk l) := by
  have := c_codeOk_impl l hl l.length k 0 (by omega) (by omega) hk
  simpa [impl_CodeOk.f, c_codeOk] using this

/-! ### cpuok -/
def c_words (l : List Int) : Bool := l.all fun x => c_in x 0 65535
def c_cpuOk (p : Int) (l : List Int) : Bool := c_in p 0 60 && decide (l.length ≤ 8) && c_words l
theorem c_isWord (x : Int) : impl_isWord.f x = some (c_in x 0 65535) := by
  unfold impl_isWord.f
  rw [c_within]
  rfl
theorem c_words_impl (l : List Int) (hl : l.length ≤ 1048576) (d : Nat) : ∀ (k i : Nat), l.length - i = d → i ≤ l.length → d < k → impl_wordsOk.l0 k l (l.length : Int) i = some (c_words (l.drop i)) := by
  induction d with
  | zero =>
    intro k i hd hi hk
    obtain ⟨k, rfl⟩ := c_up (k := k) (by omega)
    rw [impl_wordsOk.l0, if_neg (by omega), List.drop_eq_nil_of_le (by omega)]
    rfl
  | succ d ih =>
    intro k i hd hi hk
    obtain ⟨k, rfl⟩ := c_up (k := k) (by omega)
    have hd' : l.drop i = l[i]'(by omega) :: l.drop (i + 1) := List.drop_eq_getElem_cons (by omega)
    rw [impl_wordsOk.l0, if_pos (by omega), if_pos (by omega), if_pos (by omega), c_rd (by omega), c_isWord, c_inc (n := l.length) (by omega) (by omega), ih k (i + 1) (by omega) (by omega) (by omega), hd']
    simp only [Option.bind_some, c_words, List.all_cons]
    cases c_in (l[i]'(by omega)) 0 65535 <;> simp
theorem c_CpuOk_impl (p : Int) (l : List Int) (hl : l.length ≤ 1048576) (k : Nat) (hk : l.length < k) : impl_CpuOk.f k p l = some (c_cpuOk p l) := by
  have hw := c_words_impl l hl l.length k 0 (by omega) (by omega) hk
  rw [List.drop_zero] at hw
  have e0 : ((0 : Nat) : Int) = 0 := rfl
  rw [e0] at hw
  unfold impl_CpuOk.f impl_wordsOk.f c_cpuOk
  rw [c_within, hw]
  simp only [Option.bind_some]
  by_cases h1 : c_in p 0 60 = true
  · rw [if_pos h1, h1]
    by_cases h2 : l.length ≤ 8
    · rw [if_pos (by omega), decide_eq_true h2]; simp
    · rw [if_neg (by omega), decide_eq_false h2]; simp
  · rw [if_neg h1]
    simp at h1
    rw [h1]; simp

/-! ### cellat -/
def c_at (n : Nat) (f z p : Int) : Int := if 0 ≤ p ∧ p < z ∧ 0 ≤ f ∧ p < (n : Int) - f then f + p else -1
theorem c_at_lt {n : Nat} {f z p : Int} : -1 ≤ c_at n f z p ∧ c_at n f z p < n := by unfold c_at; split <;> omega
theorem c_cellAt (l : List Int) (hl : l.length ≤ 9223372036854775807) (f z p : Int) (hf : f ≤ 9223372036854775807) : impl_cellAt.f l f z p = some (c_at l.length f z p) := by
  unfold impl_cellAt.f c_at
  by_cases h1 : f < 0
  · rw [if_pos h1, if_neg (by omega)]
  · rw [if_neg h1]
    by_cases h2 : p < 0
    · rw [if_pos h2, if_neg (by omega)]
    · rw [if_neg h2]
      by_cases h3 : p ≥ z
      · rw [if_pos h3, if_neg (by omega)]
      · rw [if_neg h3, c_wrap (n := (l.length : Int) - f) (by omega) (by omega)]
        by_cases h4 : p ≥ (l.length : Int) - f
        · rw [if_pos h4, if_neg (by omega)]
        · rw [if_neg h4, if_pos (by omega), c_wrap (by omega) (by omega)]

/-! ### loadcell -/
def c_load (l : List Int) (f z p : Int) : Int × Bool := if c_at l.length f z p < 0 then (0, false) else (rd l (c_at l.length f z p), true)

/-! ### store -/
def c_mod (n : Int) : Int := n % 65536
theorem c_modulo (n : Int) : impl_modulo.f n 65536 = some (c_mod n) := by
  unfold impl_modulo.f c_mod
  have h : -65536 < Int.tmod n 65536 ∧ Int.tmod n 65536 < 65536 := ⟨by have := Int.lt_tmod_of_pos n (b := 65536) (by omega); omega, Int.tmod_lt_of_pos n (by omega)⟩
  have e : (Int.tmod n 65536) % 65536 = n % 65536 := by
    have := Int.tmod_add_mul_tdiv n 65536
    omega
  rw [if_neg (by omega), c_wrap (by omega) (by omega), Int.tmod_eq_emod_of_nonneg (by omega)]
  congr 1
  omega
theorem c_copyInts (l : List Int) (hl : l.length ≤ 1048576) : impl_copyInts.f l = some l := by
  unfold impl_copyInts.f
  simp only [Option.bind_some]
  rw [if_pos (by simp; omega), List.nil_append]
theorem c_copyArena (l : List Int) (hl : l.length ≤ 1048576) : impl_copyArena.f l = some l := by
  unfold impl_copyArena.f
  rw [c_copyInts l hl]
  rfl
def c_store (l : List Int) (f z p n : Int) : List Int × Bool := if c_at l.length f z p < 0 then (l, false) else (l.set (c_at l.length f z p).toNat (c_mod n), true)
theorem c_store_len (l : List Int) (f z p n : Int) : (c_store l f z p n).1.length = l.length := by
  unfold c_store
  split
  · rfl
  · simp

/-! ### trapof -/
def c_takes (op : Int) : Int := if op = 2 ∨ op = 10 ∨ op = 11 ∨ op = 12 ∨ op = 13 ∨ op = 16 then 1 else if op = 3 ∨ op = 4 ∨ op = 5 ∨ op = 6 ∨ op = 7 ∨ op = 8 then 2 else 0
def c_puts (op : Int) : Int := if op = 1 ∨ op = 2 ∨ op = 4 ∨ op = 5 ∨ op = 6 ∨ op = 7 ∨ op = 8 ∨ op = 17 then 1 else if op = 11 then 2 else 0
theorem c_takes_impl (op : Int) (k : Nat) (hk : 0 < k) : impl_takes.f k op = some (c_takes op) := by
  obtain ⟨k, rfl⟩ := c_up hk
  by_cases a2 : op = 2
  · subst a2; rfl
  by_cases a10 : op = 10
  · subst a10; rfl
  by_cases a11 : op = 11
  · subst a11; rfl
  by_cases a12 : op = 12
  · subst a12; rfl
  by_cases a13 : op = 13
  · subst a13; rfl
  by_cases a16 : op = 16
  · subst a16; rfl
  by_cases a3 : op = 3
  · subst a3; rfl
  by_cases a4 : op = 4
  · subst a4; rfl
  by_cases a5 : op = 5
  · subst a5; rfl
  by_cases a6 : op = 6
  · subst a6; rfl
  by_cases a7 : op = 7
  · subst a7; rfl
  by_cases a8 : op = 8
  · subst a8; rfl
  unfold impl_takes.f c_takes
  rw [if_neg a2, if_neg a10, if_neg a11, if_neg a12, if_neg a13]
  simp [impl_takes.j0, a2, a10, a11, a12, a13, a16, a3, a4, a5, a6, a7, a8]
theorem c_puts_impl (op : Int) (k : Nat) (hk : 0 < k) : impl_puts.f k op = some (c_puts op) := by
  obtain ⟨k, rfl⟩ := c_up hk
  by_cases a1 : op = 1
  · subst a1; rfl
  by_cases a2 : op = 2
  · subst a2; rfl
  by_cases a4 : op = 4
  · subst a4; rfl
  by_cases a5 : op = 5
  · subst a5; rfl
  by_cases a6 : op = 6
  · subst a6; rfl
  by_cases a7 : op = 7
  · subst a7; rfl
  by_cases a8 : op = 8
  · subst a8; rfl
  by_cases a17 : op = 17
  · subst a17; rfl
  by_cases a11 : op = 11
  · subst a11; rfl
  unfold impl_puts.f c_puts
  rw [if_neg a1, if_neg a2, if_neg a4, if_neg a5, if_neg a6, if_neg a7, if_neg a8]
  simp [impl_puts.j0, a1, a2, a4, a5, a6, a7, a8, a17, a11]
theorem c_takes_b (op : Int) : 0 ≤ c_takes op ∧ c_takes op ≤ 2 := by
  unfold c_takes
  split
  · omega
  · split <;> omega
theorem c_puts_b (op : Int) : 0 ≤ c_puts op ∧ c_puts op ≤ 2 := by
  unfold c_puts
  split
  · omega
  · split <;> omega
theorem c_trapOf_no (pc : Int) (st : List Int) (code : List S64) (ar : List Int) (f z : Int) (hs : st.length ≤ 1048576) (hcl : code.length ≤ 1048576) (h : c_cpuOk pc st = false ∨ c_codeOk code = false ∨ (code.length : Int) ≤ pc) (k : Nat) (hk : st.length < k) (hk2 : code.length < k) :
    impl_trapOf.f k pc st code ar f z = some 6 := by
  unfold impl_trapOf.f
  rw [c_CpuOk_impl pc st hs k hk, c_CodeOk_impl code hcl k hk2]
  obtain ⟨k, rfl⟩ := c_up (k := k) (by omega)
  simp only [Option.bind_some]
  by_cases h1 : c_cpuOk pc st = true
  · rw [if_pos h1]
    by_cases h2 : c_codeOk code = true
    · rw [if_pos h2, impl_trapOf.j0, if_pos]
      rcases h with h | h | h
      · rw [h1] at h; cases h
      · rw [h2] at h; cases h
      · exact decide_eq_true h
    · rw [if_neg h2, impl_trapOf.j0, if_pos rfl]
  · rw [if_neg h1, impl_trapOf.j0, if_pos rfl]
theorem c_trapOf_op (pc : Int) (st : List Int) (code : List S64) (ar : List Int) (f z op arg : Int) (hs : st.length ≤ 1048576) (hcl : code.length ≤ 1048576) (h1 : c_cpuOk pc st = true) (h2 : c_codeOk code = true) (hp : 0 ≤ pc) (hq : pc < (code.length : Int)) (hx : rd_T64 code pc = ⟨op, arg⟩) (ho : c_in op 0 17 = false) (k : Nat) (hk : st.length < k) (hk2 : code.length < k) :
    impl_trapOf.f k pc st code ar f z = some 1 := by
  unfold impl_trapOf.f
  rw [c_CpuOk_impl pc st hs k hk, c_CodeOk_impl code hcl k hk2]
  obtain ⟨k, rfl⟩ := c_up (k := k) (by omega)
  simp only [Option.bind_some]
  rw [if_pos h1, if_pos h2, impl_trapOf.j0, if_neg (by rw [decide_eq_true_iff]; omega), if_pos hp, if_pos hq, hx]
  unfold impl_hasOp.f
  rw [c_within]
  simp only [Option.bind_some]
  rw [ho, if_neg (by decide)]
theorem c_trapOf (pc : Int) (st : List Int) (code : List S64) (ar : List Int) (f z op arg : Int) (hs : st.length ≤ 8) (hcl : code.length ≤ 60) (h1 : c_cpuOk pc st = true) (h2 : c_codeOk code = true) (hp : 0 ≤ pc) (hq : pc < (code.length : Int)) (hx : rd_T64 code pc = ⟨op, arg⟩) (ho : c_in op 0 17 = true) (n2 : op ≠ 2) (n3 : op ≠ 3) (k : Nat) (hk : 70 ≤ k) :
    impl_trapOf.f k pc st code ar f z = some (if (st.length : Int) < c_takes op then 5 else if op = 7 ∧ rd st ((st.length : Int) - 1) = 0 then 3 else if (st.length : Int) - c_takes op + c_puts op > 8 then 4 else 0) := by
  have ht := c_takes_b op
  have hu := c_puts_b op
  unfold impl_trapOf.f
  rw [c_CpuOk_impl pc st (by omega) k (by omega), c_CodeOk_impl code (by omega) k (by omega)]
  obtain ⟨k, rfl⟩ := c_up (k := k) (by omega)
  obtain ⟨k, rfl⟩ := c_up (k := k) (by omega)
  obtain ⟨k, rfl⟩ := c_up (k := k) (by omega)
  obtain ⟨k, rfl⟩ := c_up (k := k) (by omega)
  simp only [Option.bind_some]
  rw [if_pos h1, if_pos h2, impl_trapOf.j0, if_neg (by rw [decide_eq_true_iff]; omega), if_pos hp, if_pos hq, hx]
  unfold impl_hasOp.f
  rw [c_within]
  simp only [Option.bind_some]
  rw [ho, if_pos rfl, c_takes_impl op _ (by omega)]
  simp only [Option.bind_some]
  by_cases hlt : (st.length : Int) < c_takes op
  · rw [if_pos hlt, if_pos hlt]
  · have j3 : ∀ b : Bool, impl_trapOf.j3 (k + 1) (st.length : Int) b op arg = some (if b = true then 3 else if (st.length : Int) - c_takes op + c_puts op > 8 then 4 else 0) := by
      intro b
      rw [impl_trapOf.j3]
      cases b
      · rw [if_neg (by decide), if_neg (by decide), c_takes_impl op _ (by omega), c_puts_impl op _ (by omega)]
        simp only [Option.bind_some]
        rw [c_wrap (n := (st.length : Int) - c_takes op) (by omega) (by omega), c_wrap (n := (st.length : Int) - c_takes op + c_puts op) (by omega) (by omega)]
        split <;> rfl
      · rfl
    rw [if_neg hlt, if_neg hlt, if_neg n2, impl_trapOf.j1, if_neg (by decide), if_neg n3, impl_trapOf.j2, if_neg (by decide)]
    by_cases h7 : op = 7
    · have h2t : c_takes op = 2 := by rw [h7]; rfl
      rw [if_pos h7, c_wrap (n := (st.length : Int) - 1) (by omega) (by omega), if_pos (by omega), if_pos (by omega), j3]
      by_cases hz : rd st ((st.length : Int) - 1) = 0
      · rw [if_pos (c := (rd st ((st.length : Int) - 1) == 0) = true) (beq_iff_eq.mpr hz), if_pos (c := op = 7 ∧ rd st ((st.length : Int) - 1) = 0) ⟨h7, hz⟩]
      · rw [if_neg (c := (rd st ((st.length : Int) - 1) == 0) = true) (by rw [beq_iff_eq]; exact hz), if_neg (c := op = 7 ∧ rd st ((st.length : Int) - 1) = 0) (fun h => hz h.2)]
    · rw [if_neg h7, j3, if_neg (c := false = true) (by decide), if_neg (c := op = 7 ∧ rd st ((st.length : Int) - 1) = 0) (fun h => h7 h.1)]
theorem c_copyCpu (pc : Int) (st : List Int) (hl : st.length ≤ 1048576) : impl_copyCpu.f pc st = some (pc, st) := by
  unfold impl_copyCpu.f
  rw [c_copyInts st hl]
  rfl
/-- A step that ends in a trap. -/
theorem c_step_trap (pc : Int) (st : List Int) (code : List S64) (ar : List Int) (f z t e : Int) (hs : st.length ≤ 1048576) (ha : ar.length ≤ 1048576) (k : Nat) (ht : impl_trapOf.f k pc st code ar f z = some e) (he : e ≠ 0) :
    impl_StepCpu.f k pc st code ar f z t = some (pc, st, ar, 0, 0, 0, e) := by
  unfold impl_StepCpu.f
  rw [c_copyCpu pc st hs, c_copyArena ar ha, ht]
  simp only [Option.bind_some]
  rw [if_neg he]

/-! ### step1 -/
/-- A step without a trap. -/
theorem c_step (pc : Int) (st : List Int) (code : List S64) (ar : List Int) (f z t op arg : Int) (hs : st.length ≤ 8) (ha : ar.length ≤ 1048576) (k : Nat) (hk : 70 ≤ k) (ht : impl_trapOf.f k pc st code ar f z = some 0) (hp : 0 ≤ pc) (hp60 : pc ≤ 60) (hq : pc < (code.length : Int)) (hx : rd_T64 code pc = ⟨op, arg⟩) (n : Nat) (hn : c_takes op = (n : Int)) (hnl : n ≤ st.length) :
    impl_StepCpu.f k pc st code ar f z t = impl_StepCpu.o op arg (pc + 1) t (st.take (st.length - n)) (st.drop (st.length - n)) ar := by
  unfold impl_StepCpu.f
  rw [c_copyCpu pc st (by omega), c_copyArena ar ha, ht]
  simp only [Option.bind_some]
  rw [if_pos trivial, if_pos ⟨hp, hq⟩, hx, c_takes_impl op k (by omega), hn]
  simp only [Option.bind_some]
  rw [if_pos ⟨by omega, by omega, by omega⟩, c_wrap (n := pc + 1) (by omega) (by omega)]
  rfl

/-! ### the law -/
def c_red (op a b : Int) : Int := if op = 4 then a + b else if op = 5 then (a - b) % 65536 else if op = 6 then a * b else if op = 7 then Int.tdiv a b else if a < b then 1 else 0
theorem c_prod {a b : Int} (a0 : 0 ≤ a) (a1 : a < 256) (b0 : 0 ≤ b) (b1 : b < 256) : 0 ≤ a * b ∧ a * b ≤ 65025 := by
  refine ⟨Int.mul_nonneg a0 b0, ?_⟩
  have h1 : a * b ≤ 255 * b := Int.mul_le_mul_of_nonneg_right (by omega) b0
  omega
theorem c_quot {a b : Int} (a0 : 0 ≤ a) (a1 : a < 256) (b0 : 0 ≤ b) : 0 ≤ Int.tdiv a b ∧ Int.tdiv a b < 256 := by
  rw [Int.tdiv_eq_ediv_of_nonneg a0]
  have h1 := Int.ediv_nonneg a0 b0
  have h2 := Int.ediv_le_self b a0
  omega
theorem c_computed {op a b : Int} (a0 : 0 ≤ a) (a1 : a < 256) (b0 : 0 ≤ b) (b1 : b < 256) (h4 : 4 ≤ op) (h8 : op ≤ 8) (h7 : op = 7 → b ≠ 0) : impl_computed.f op a b = some (c_red op a b) := by
  have hp := c_prod a0 a1 b0 b1
  have hq := c_quot a0 a1 b0
  unfold impl_computed.f c_red
  by_cases c4 : op = 4
  · rw [if_pos c4, if_pos c4, c_wrap (by omega) (by omega), c_modulo, Option.bind_some]
    unfold c_mod
    congr 1
    omega
  · rw [if_neg c4, if_neg c4]
    by_cases c5 : op = 5
    · rw [if_pos c5, if_pos c5, c_wrap (by omega) (by omega), c_modulo, Option.bind_some]
      rfl
    · rw [if_neg c5, if_neg c5]
      by_cases c6 : op = 6
      · rw [if_pos c6, if_pos c6, c_wrap (by omega) (by omega), c_modulo, Option.bind_some]
        unfold c_mod
        congr 1
        omega
      · rw [if_neg c6, if_neg c6]
        by_cases c7 : op = 7
        · rw [if_pos c7, if_pos c7, if_neg (h7 c7), c_wrap (by omega) (by omega)]
        · rw [if_neg c7, if_neg c7]
          split <;> rfl
theorem c_sum_code {a b op : Int} (a0 : 0 ≤ a) (a1 : a < 256) (b0 : 0 ≤ b) (b1 : b < 256) (h4 : 4 ≤ op) (h8 : op ≤ 8) : c_codeOk [(⟨1, a⟩ : S64), ⟨1, b⟩, ⟨op, 0⟩] = true := by
  simp only [c_codeOk, List.all_cons, List.all_nil, c_okI, List.length_cons, List.length_nil]
  rw [c_in_iff.2 ⟨a0, by omega⟩, c_in_iff.2 ⟨b0, by omega⟩, c_in_iff.2 ⟨show 0 ≤ op by omega, show op ≤ 255 by omega⟩]
  rfl
theorem c_sum_cpu (pc : Int) (st : List Int) (h0 : 0 ≤ pc) (h1 : pc ≤ 60) (hl : st.length ≤ 8) (hw : ∀ y ∈ st, 0 ≤ y ∧ y ≤ 65535) : c_cpuOk pc st = true := by
  unfold c_cpuOk c_words
  rw [c_in_iff.2 ⟨h0, h1⟩, decide_eq_true hl, List.all_eq_true.2 (fun y hy => c_in_iff.2 (hw y hy))]
  rfl
theorem c_sum_push {pc arg : Int} {st : List Int} {code : List S64} (hcode : c_codeOk code = true) (hlen : code.length = 3) (p0 : 0 ≤ pc) (p1 : pc < 3) (hx : rd_T64 code pc = ⟨1, arg⟩) (sl : st.length ≤ 2) (sw : ∀ y ∈ st, 0 ≤ y ∧ y ≤ 65535) (k : Nat) (hk : 70 ≤ k) :
    impl_StepCpu.f k pc st code (List.replicate 64 0) 0 1 0 = some (pc + 1, st ++ [arg], List.replicate 64 0, 0, 0, 0, 0) := by
  have ht : impl_trapOf.f k pc st code (List.replicate 64 0) 0 1 = some 0 := by
    rw [c_trapOf pc st code _ 0 1 1 arg (by omega) (by omega) (c_sum_cpu pc st p0 (by omega) (by omega) sw) hcode p0 (by omega) hx rfl (by omega) (by omega) k hk]
    rw [show c_takes 1 = 0 from rfl, show c_puts 1 = 1 from rfl, if_neg (by omega), if_neg (by omega), if_neg (by omega)]
  rw [c_step pc st code _ 0 1 0 1 arg (by omega) (by simp) k hk ht p0 (by omega) (by omega) hx 0 rfl (Nat.zero_le _)]
  unfold impl_StepCpu.o
  rw [if_pos rfl, Nat.sub_zero, List.take_length, if_pos (by omega)]
theorem c_sum_trap {a b : Int} {code : List S64} (hb : b = 0) (a0 : 0 ≤ a) (a1 : a < 256) (hcode : c_codeOk code = true) (hlen : code.length = 3) (hx : rd_T64 code 2 = ⟨7, 0⟩) (k : Nat) (hk : 70 ≤ k) :
    impl_StepCpu.f k 2 [a, b] code (List.replicate 64 0) 0 1 0 = some (2, [a, b], List.replicate 64 0, 0, 0, 0, 3) := by
  have sw : ∀ y ∈ [a, b], 0 ≤ y ∧ y ≤ 65535 := by
    intro y hy
    rcases List.mem_cons.1 hy with rfl | hy
    · omega
    · rw [List.mem_singleton.1 hy]; omega
  have ht : impl_trapOf.f k 2 [a, b] code (List.replicate 64 0) 0 1 = some 3 := by
    rw [c_trapOf 2 [a, b] code _ 0 1 7 0 (by simp) (by omega) (c_sum_cpu 2 [a, b] (by omega) (by omega) (by simp) sw) hcode (by omega) (by omega) hx rfl (by omega) (by omega) k hk]
    rw [show c_takes 7 = 2 from rfl, if_neg (by simp), if_pos ⟨rfl, by show b = 0; exact hb⟩]
  unfold impl_StepCpu.f
  rw [c_copyCpu 2 [a, b] (by simp), c_copyArena _ (by simp), ht]
  simp only [Option.bind_some]
  rw [if_neg (by decide)]
theorem c_sum_step {a b op : Int} {code : List S64} (a0 : 0 ≤ a) (a1 : a < 256) (b0 : 0 ≤ b) (b1 : b < 256) (h4 : 4 ≤ op) (h8 : op ≤ 8) (h7 : op = 7 → b ≠ 0) (hcode : c_codeOk code = true) (hlen : code.length = 3) (hx : rd_T64 code 2 = ⟨op, 0⟩) (k : Nat) (hk : 70 ≤ k) :
    impl_StepCpu.f k 2 [a, b] code (List.replicate 64 0) 0 1 0 = some (3, [c_red op a b], List.replicate 64 0, 0, 0, 0, 0) := by
  have sw : ∀ y ∈ [a, b], 0 ≤ y ∧ y ≤ 65535 := by
    intro y hy
    rcases List.mem_cons.1 hy with rfl | hy
    · omega
    · rw [List.mem_singleton.1 hy]; omega
  have htk : c_takes op = 2 := by unfold c_takes; rw [if_neg (by omega), if_pos (by omega)]
  have hpu : c_puts op = 1 := by unfold c_puts; rw [if_pos (by omega)]
  have ht : impl_trapOf.f k 2 [a, b] code (List.replicate 64 0) 0 1 = some 0 := by
    rw [c_trapOf 2 [a, b] code _ 0 1 op 0 (by simp) (by omega) (c_sum_cpu 2 [a, b] (by omega) (by omega) (by simp) sw) hcode (by omega) (by omega) hx (c_in_iff.2 ⟨by omega, by omega⟩) (by omega) (by omega) k hk]
    rw [htk, hpu, if_neg (by simp), if_neg (by rintro ⟨h, h2⟩; exact h7 h h2), if_neg (by simp)]
  rw [c_step 2 [a, b] code _ 0 1 0 op 0 (by simp) (by simp) k hk ht (by omega) (by omega) (by omega) hx 2 htk (by simp)]
  unfold impl_StepCpu.o
  rw [if_neg (by omega), if_pos (by omega)]
  show (if 1 < [a, b].length then ((impl_computed.f op a b).bind fun t => if ([] : List Int).length < 17592186044416 then some (2 + 1, [] ++ [t], List.replicate 64 0, 0, 0, 0, 0) else none) else none) = _
  rw [if_pos (by simp), c_computed a0 a1 b0 b1 h4 h8 h7, Option.bind_some, if_pos (by simp)]
  rfl
theorem c_arenaNew : impl_ArenaNew.f = some (List.replicate 64 0) := rfl
theorem c_sum_l1 {a b op : Int} (a0 : 0 ≤ a) (a1 : a < 256) (b0 : 0 ≤ b) (b1 : b < 256) (h4 : 4 ≤ op) (h8 : op ≤ 8) (i : Nat) (hi : i < 5) (hop : rd [4, 5, 6, 7, 8] (i : Int) = op) (k : Nat) (hk : 100 ≤ k) :
    laws_FnSumsOf.l1 (k + 4) a b [4, 5, 6, 7, 8] i [⟨1, a⟩, ⟨1, b⟩, ⟨op, 0⟩] 0 0 0 [] = if op = 7 ∧ b = 0 then laws_FnSumsOf.j2 k a b [4, 5, 6, 7, 8] i 3 true 2 [a, b] else laws_FnSumsOf.j2 k a b [4, 5, 6, 7, 8] i 0 false 3 [c_red op a b] := by
  have hcode := c_sum_code a0 a1 b0 b1 h4 h8
  have hx2 : rd_T64 [(⟨1, a⟩ : S64), ⟨1, b⟩, ⟨op, 0⟩] 2 = ⟨op, 0⟩ := rfl
  have s0 := fun k hk => c_sum_push (pc := 0) (arg := a) (st := []) hcode rfl (by omega) (by omega) rfl (by simp) (by simp) k hk
  have s1 := fun k hk => c_sum_push (pc := 1) (arg := b) (st := [a]) hcode rfl (by omega) (by omega) rfl (by simp) (by intro y hy; rw [List.mem_singleton.1 hy]; omega) k hk
  have hlen : [(⟨1, a⟩ : S64), ⟨1, b⟩, ⟨op, 0⟩].length = 3 := rfl
  generalize [(⟨1, a⟩ : S64), ⟨1, b⟩, ⟨op, 0⟩] = code at hcode hx2 hlen s0 s1 ⊢
  rw [laws_FnSumsOf.l1, if_pos (by omega), c_arenaNew, Option.bind_some, s0 _ (by omega), Option.bind_some]
  dsimp only
  rw [show (0 : Int) + 1 = 1 from rfl, c_wrap (n := (1 : Int)) (by omega) (by omega), List.nil_append, laws_FnSumsOf.l1, if_pos (by omega), c_arenaNew, Option.bind_some, s1 _ (by omega), Option.bind_some]
  dsimp only
  rw [show (1 : Int) + 1 = 2 from rfl, c_wrap (n := (2 : Int)) (by omega) (by omega), laws_FnSumsOf.l1, if_pos (by omega), c_arenaNew, Option.bind_some]
  have fin : ∀ (t pc : Int) (st : List Int), laws_FnSumsOf.l1 (k + 1) a b [4, 5, 6, 7, 8] i code t 3 pc st = laws_FnSumsOf.j2 k a b [4, 5, 6, 7, 8] i t (if op = 7 then (b == 0) else false) pc st := by
    intro t pc st
    rw [laws_FnSumsOf.l1, if_neg (by omega), if_pos (by omega), if_pos (show (i : Int) < (([4, 5, 6, 7, 8] : List Int).length : Int) by simp; omega), hop]
    by_cases h : op = 7
    · rw [if_pos h, if_pos h]
    · rw [if_neg h, if_neg h]
  by_cases hz : op = 7 ∧ b = 0
  · have hx7 : rd_T64 code 2 = ⟨7, 0⟩ := by rw [hx2, hz.1]
    rw [show ([a] ++ [b] : List Int) = [a, b] from rfl, c_sum_trap (code := code) hz.2 a0 a1 hcode hlen hx7 _ (by omega), Option.bind_some]
    dsimp only
    rw [show (2 : Int) + 1 = 3 from rfl, c_wrap (n := (3 : Int)) (by omega) (by omega), fin, if_pos hz, if_pos hz.1, hz.2]
    rfl
  · rw [show ([a] ++ [b] : List Int) = [a, b] from rfl, c_sum_step (code := code) a0 a1 b0 b1 h4 h8 (fun h h2 => hz ⟨h, h2⟩) hcode hlen hx2 _ (by omega), Option.bind_some]
    dsimp only
    rw [show (2 : Int) + 1 = 3 from rfl, c_wrap (n := (3 : Int)) (by omega) (by omega), fin, if_neg hz]
    by_cases h : op = 7
    · rw [if_pos h, beq_eq_false_iff_ne.2 (fun h2 => hz ⟨h, h2⟩)]
    · rw [if_neg h]
def c_want (a b : Int) : List Int := [a + b, (a - b) % 65536, a * b, if b > 0 then Int.tdiv a b else 0, if a < b then 1 else 0]
theorem c_sum_j2 {a b : Int} (a0 : 0 ≤ a) (a1 : a < 256) (b0 : 0 ≤ b) (b1 : b < 256) (i : Nat) (hi : i < 5) (v : Int) (hv : v = rd (c_want a b) (i : Int)) (k : Nat) :
    laws_FnSumsOf.j2 (k + 2) a b [4, 5, 6, 7, 8] i 0 false 3 [v] = laws_FnSumsOf.l0 k a b [4, 5, 6, 7, 8] ((i : Int) + 1) := by
  have hp := c_prod a0 a1 b0 b1
  have hq := c_quot a0 a1 b0
  have e1 : Aside0 (Int.tmod (a - b + 65536) 65536 = (a - b) % 65536) := ⟨by rw [Int.tmod_eq_emod_of_nonneg (by omega)]; omega⟩
  have e2 : Aside0 (Int.tmod (a * b) 65536 = a * b) := ⟨by rw [Int.tmod_eq_emod_of_nonneg (by omega)]; omega⟩
  have hw : Aside0 (wrap64 ((i : Int) + 1) = (i : Int) + 1) := ⟨c_wrap (by omega) (by omega)⟩
  have hvv := Aside0.mk hv
  clear hv
  have j3 : ∀ w : List Int, w.length = 5 → (if a < b then w.set 4 1 else w) = c_want a b → laws_FnSumsOf.j3 (k + 1) a b [4, 5, 6, 7, 8] i 0 w 3 [v] = laws_FnSumsOf.l0 k a b [4, 5, 6, 7, 8] ((i : Int) + 1) := by
    intro w hwl hww0
    have hww1 := Aside0.mk hww0
    clear hww0
    rw [laws_FnSumsOf.j3, hw.out]
    by_cases h : a < b
    · have hs : Aside0 (w.set (4 : Int).toNat 1 = c_want a b) := ⟨by have hww := hww1.out; rw [if_pos h] at hww; exact hww⟩
      rw [if_pos h, if_pos (by omega), if_pos rfl, if_pos (by simp), if_pos (by simp), if_pos (by omega), if_pos (by omega), hs.out, if_pos (by show v = _; exact hvv.out), if_pos rfl]
    · have hs : Aside0 (w = c_want a b) := ⟨by have hww := hww1.out; rw [if_neg h] at hww; exact hww⟩
      rw [if_neg h, if_pos rfl, if_pos (by simp), if_pos (by simp), if_pos (by omega), if_pos (by omega), hs.out, if_pos (by show v = _; exact hvv.out), if_pos rfl]
  rw [laws_FnSumsOf.j2, if_neg (by decide), Option.bind_some, c_wrap (n := a + b) (by omega) (by omega), c_wrap (n := a - b) (by omega) (by omega), c_wrap (n := a - b + 65536) (by omega) (by omega), c_wrap (n := a * b) (by omega) (by omega), c_wrap (n := Int.tdiv a b) (by omega) (by omega), e1.out, e2.out]
  by_cases hb : b > 0
  · rw [if_pos hb, if_neg (by omega), if_pos (by simp)]
    refine j3 _ (by simp) ?_
    unfold c_want
    rw [if_pos hb]
    by_cases h : a < b
    · rw [if_pos h, if_pos h]; rfl
    · rw [if_neg h, if_neg h]; rfl
  · rw [if_neg hb]
    refine j3 _ (by simp) ?_
    unfold c_want
    rw [if_neg hb]
    by_cases h : a < b
    · rw [if_pos h, if_pos h]; rfl
    · rw [if_neg h, if_neg h]
theorem c_sum_l0 {a b : Int} (a0 : 0 ≤ a) (a1 : a < 256) (b0 : 0 ≤ b) (b1 : b < 256) (d : Nat) : ∀ (k i : Nat), 5 - i = d → i ≤ 5 → 110 + 10 * d ≤ k → laws_FnSumsOf.l0 k a b [4, 5, 6, 7, 8] i = some true := by
  induction d with
  | zero =>
    intro k i hd hi hk
    obtain ⟨k, rfl⟩ := c_up (k := k) (by omega)
    have : i = 5 := by omega
    subst this
    rw [laws_FnSumsOf.l0, if_neg (by simp)]
  | succ d ih =>
    intro k i hd hi hk
    obtain ⟨k, rfl⟩ : ∃ m, k = m + 7 := ⟨k - 7, by omega⟩
    have hi5 : i < 5 := by omega
    have hop : rd [4, 5, 6, 7, 8] (i : Int) = (i : Int) + 4 := by
      match i, hi5 with
      | 0, _ => rfl
      | 1, _ => rfl
      | 2, _ => rfl
      | 3, _ => rfl
      | 4, _ => rfl
      | n + 5, h => omega
    have h2 := c_sum_l1 (op := (i : Int) + 4) a0 a1 b0 b1 (by omega) (by omega) i hi5 hop (k + 2) (by omega)
    rw [laws_FnSumsOf.l0, if_pos (by simp; omega), if_pos (by omega), hop]
    refine h2.trans ?_
    by_cases hz : (i : Int) + 4 = 7 ∧ b = 0
    · rw [if_pos hz, laws_FnSumsOf.j2, if_pos rfl, if_pos rfl, c_inc (n := 9223372036854775807) (by omega) (by omega)]
      exact ih (k + 1) (i + 1) (by omega) (by omega) (by omega)
    · rw [if_neg hz, c_sum_j2 a0 a1 b0 b1 i hi5 _ ?_ k]
      · exact ih k (i + 1) (by omega) (by omega) (by omega)
      · match i, hi5 with
        | 0, _ => rfl
        | 1, _ => rfl
        | 2, _ => rfl
        | 3, _ =>
          have hb : b > 0 := by
            have : b ≠ 0 := fun h => hz ⟨rfl, h⟩
            omega
          show Int.tdiv a b = if b > 0 then Int.tdiv a b else 0
          rw [if_pos hb]
        | 4, _ => rfl
        | n + 5, h => omega
theorem FnSumsOf (l : List Int) (hl : l.length ≤ maxLen) (_ : l.length * 1 ≤ 140737488351232) (_ : ∀ x ∈ l, (Lit.int .u8 x).wf = true) : ∃ k, laws_FnSumsOf.f k l = some true := by
  unfold maxLen at hl
  by_cases hb : (l.length : Int) > 1048576
  · refine ⟨0, ?_⟩
    unfold laws_FnSumsOf.f
    rw [c_big, Option.bind_some, if_pos (decide_eq_true hb)]
  · obtain ⟨p, hp, hr, hpl⟩ := c_DrawPlaces l (by omega)
    have h0 : 0 ≤ rd p 0 ∧ rd p 0 < 10000 := hr 0 (by omega)
    have h1 : 0 ≤ rd p 1 ∧ rd p 1 < 10000 := hr 1 (by omega)
    refine ⟨5000, ?_⟩
    unfold laws_FnSumsOf.f
    rw [c_big, Option.bind_some, if_neg (by rw [decide_eq_true_iff]; exact hb), hpl _ (by omega), Option.bind_some, if_pos (by omega), if_pos (by omega)]
    have hv1 : 0 ≤ Int.tmod (rd p 0) 256 ∧ Int.tmod (rd p 0) 256 < 256 := by rw [Int.tmod_eq_emod_of_nonneg (by omega)]; omega
    have hn1 : 0 ≤ Int.tmod (rd p 1) 256 ∧ Int.tmod (rd p 1) 256 < 256 := by rw [Int.tmod_eq_emod_of_nonneg (by omega)]; omega
    exact c_sum_l0 hv1.1 hv1.2 hn1.1 hn1.2 5 5000 0 rfl (by omega) (by omega)

end Go.Proofs.Yteehopjgmgelnaa.Pure
