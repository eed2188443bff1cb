/- FnTraps: too few numbers, too many, no such instruction and no instruction are traps of their own. No condition (the law itself answers true of a draw beyond 2^20 bytes). -/
import Derived.Test.YteehopjgmgelnaaMFnTrapsx6
namespace Go.Proofs.Yteehopjgmgelnaa.Pure
open Go.RowKit Go.Proofs.Yteehopjgmgelnaa.PFnTraps Go.Proofs.YteehopjgmgelnaaW.PrintWords Go.Proofs.YteehopjgmgelnaaW.PrintLast
set_option linter.unusedVariables false
set_option linter.unusedSimpArgs false

/-! ### base -/
theorem c_wrap {n : Int} (h0 : -9223372036854775808 ≤ n) (h1 : n ≤ 9223372036854775807) : wrap64 n = n := by unfold wrap64; omega
theorem c_wf {n : Int} (h : (Lit.int .i64 n).wf = true) : -9223372036854775808 ≤ n ∧ n ≤ 9223372036854775807 := by
  simpa [Lit.wf, IntKind.min, IntKind.max, IntKind.signed, IntKind.bits] using h
theorem c_wf32 {n : Int} (h : (Lit.int .u32 n).wf = true) : 0 ≤ n ∧ n ≤ 4294967295 := by
  simpa [Lit.wf, IntKind.min, IntKind.max, IntKind.signed, IntKind.bits] using h
theorem c_up {k : Nat} (h : 0 < k) : ∃ m, k = m + 1 := ⟨k - 1, by omega⟩

/-! ### ints -/
theorem c_rd {l : List Int} {i : Nat} (h : i < l.length) : rd l (i : Int) = l[i]'h := by
  unfold rd
  simp [h]
theorem c_rd_app (pre : List Int) (a : Int) (l : List Int) : rd (pre ++ a :: l) (pre.length : Int) = a := by
  unfold rd
  simp
theorem c_inc {i n : Nat} (h : i < n) (hn : n ≤ 9223372036854775807) : wrap64 ((i : Int) + 1) = ((i + 1 : Nat) : Int) := by rw [c_wrap (by omega) (by omega)]; omega

/-! ### draw -/
structure CSt (l : List Int) (i : Int) : Prop where
  lo : 0 ≤ i
  hi : i ≤ l.length
  sz : l.length ≤ 4611686018427387904
theorem c_and_le (x : Int) : 0 ≤ Go.bits .and .i64 x 255 ∧ Go.bits .and .i64 x 255 ≤ 255 := by
  have h : (BitVec.ofInt 64 x &&& BitVec.ofInt 64 255).toNat ≤ 255 := by
    rw [BitVec.toNat_and]
    exact Nat.le_trans Nat.and_le_right (by decide)
  have e : Go.bits .and .i64 x 255 = IntKind.i64.wrap ((BitVec.ofInt 64 x &&& BitVec.ofInt 64 255).toNat : Int) := rfl
  rw [e, IntKind.wrap_i64]
  omega
theorem c_new (l : List Int) (hl : l.length ≤ 4611686018427387904) (d : Nat) : ∀ (h : Int) (i : Nat), 4000 - i = d → i ≤ l.length → ∃ h', ∀ k, d < k → spec_l01New.l0 k l h i = some (l, 0, h') := by
  induction d with
  | zero =>
    intro h i hd hi
    refine ⟨h, fun k hk => ?_⟩
    obtain ⟨k, rfl⟩ := c_up (k := k) (by omega)
    rw [spec_l01New.l0]
    by_cases h1 : (i : Int) < (l.length : Int)
    · rw [if_pos h1, if_neg (by omega)]
    · rw [if_neg h1]
  | succ d ih =>
    intro h i hd hi
    by_cases h1 : i < l.length
    · obtain ⟨h', hh⟩ := ih (Go.bits .and .i64 (wrap64 ((wrap64 ((wrap64 (h * 131)) + (wrap64 (rd l i)))) + 7)) 1073741823) (i + 1) (by omega) (by omega)
      refine ⟨h', fun k hk => ?_⟩
      obtain ⟨k, rfl⟩ := c_up (k := k) (by omega)
      rw [spec_l01New.l0, if_pos (by omega), if_pos (by omega), if_pos (by omega), c_inc (n := l.length) (by omega) (by omega)]
      exact hh k (by omega)
    · refine ⟨h, fun k hk => ?_⟩
      obtain ⟨k, rfl⟩ := c_up (k := k) (by omega)
      rw [spec_l01New.l0, if_neg (by omega)]
theorem c_l01New (l : List Int) (hl : l.length ≤ 4611686018427387904) : ∃ h, ∀ k, 4000 < k → spec_l01New.f k l = some (l, 0, h) := by
  obtain ⟨h, hh⟩ := c_new l hl 4000 (wrap64 (37101 + (l.length : Int))) 0 rfl (by omega)
  exact ⟨h, fun k hk => by unfold spec_l01New.f; exact hh k hk⟩
theorem c_byte {l : List Int} {i : Int} (h : Int) (s : CSt l i) : ∃ x i' h', spec_l01Byte.f l i h = some (x, i', h') ∧ 0 ≤ x ∧ x ≤ 255 ∧ CSt l i' := by
  unfold spec_l01Byte.f
  have hlo := s.lo
  have hhi := s.hi
  have hsz := s.sz
  by_cases h1 : i < (l.length : Int)
  · rw [if_pos h1, if_pos hlo]
    refine ⟨_, _, _, rfl, (c_and_le _).1, (c_and_le _).2, ?_⟩
    rw [c_wrap (n := i + 1) (by omega) (by omega)]
    exact ⟨by omega, by omega, hsz⟩
  · rw [if_neg h1]
    exact ⟨_, _, _, rfl, (c_and_le _).1, (c_and_le _).2, s⟩
theorem c_below {l : List Int} {i : Int} (h : Int) (s : CSt l i) (n : Int) : ∃ x i' h', spec_l01Below.f l i h n = some (x, i', h') ∧ 0 ≤ x ∧ (0 < n → x < n) ∧ (n ≤ 0 → x = 0) ∧ CSt l i' := by
  unfold spec_l01Below.f
  by_cases h0 : n ≤ 0
  · rw [if_pos h0]
    exact ⟨_, _, _, rfl, by omega, by omega, fun _ => rfl, s⟩
  · rw [if_neg h0]
    by_cases h1 : n ≤ 256
    · obtain ⟨x, i', h', e, hx0, hx1, s'⟩ := c_byte h s
      rw [if_pos h1, e]
      simp only [Option.bind_some]
      rw [if_neg (by omega), Int.tmod_eq_emod_of_nonneg hx0]
      exact ⟨_, _, _, rfl, Int.emod_nonneg _ (by omega), fun _ => Int.emod_lt_of_pos _ (by omega), by omega, s'⟩
    · obtain ⟨x, i1, h1', e1, hx0, hx1, s1⟩ := c_byte h s
      obtain ⟨y, i2, h2', e2, hy0, hy1, s2⟩ := c_byte h1' s1
      obtain ⟨z, i3, h3', e3, hz0, hz1, s3⟩ := c_byte h2' s2
      obtain ⟨w, i4, h4', e4, hw0, hw1, s4⟩ := c_byte h3' s3
      rw [if_neg h1, e1]
      simp only [Option.bind_some]
      rw [e2]
      simp only [Option.bind_some]
      rw [e3]
      simp only [Option.bind_some]
      rw [e4]
      simp only [Option.bind_some]
      rw [if_neg (by omega), c_wrap (n := x * 16777216) (by omega) (by omega), c_wrap (n := y * 65536) (by omega) (by omega), c_wrap (n := z * 256) (by omega) (by omega), c_wrap (n := x * 16777216 + y * 65536) (by omega) (by omega), c_wrap (n := x * 16777216 + y * 65536 + z * 256) (by omega) (by omega), c_wrap (by omega) (by omega), Int.tmod_eq_emod_of_nonneg (by omega)]
      exact ⟨_, _, _, rfl, Int.emod_nonneg _ (by omega), fun _ => Int.emod_lt_of_pos _ (by omega), by omega, s4⟩

/-! ### places -/
theorem c_places_l {l : List Int} (d : Nat) : ∀ (acc : List Int) (j : Nat) (i h : Int), 12 - j = d → j ≤ 12 → acc.length = j → (∀ x ∈ acc, 0 ≤ x ∧ x < 10000) → CSt l i → ∃ p : List Int, p.length = 12 ∧ (∀ x ∈ p, 0 ≤ x ∧ x < 10000) ∧ ∀ k, d < k → spec_DrawPlaces.l0 k acc j l i h = some p := by
  induction d with
  | zero =>
    intro acc j i h hd hj hl hacc s
    refine ⟨acc, by omega, hacc, fun k hk => ?_⟩
    obtain ⟨k, rfl⟩ := c_up (k := k) (by omega)
    rw [spec_DrawPlaces.l0, if_neg (by omega)]
  | succ d ih =>
    intro acc j i h hd hj hl hacc s
    obtain ⟨x, i', h', e, hx0, hx1, _, s'⟩ := c_below h s 10000
    obtain ⟨p, hp1, hp2, hp3⟩ := ih (acc ++ [x]) (j + 1) i' h' (by omega) (by omega) (by rw [List.length_append, List.length_singleton]; omega) (fun y hy => by
      rcases List.mem_append.1 hy with hy | hy
      · exact hacc y hy
      · rw [List.mem_singleton] at hy
        subst hy
        exact ⟨hx0, hx1 (by omega)⟩) s'
    refine ⟨p, hp1, hp2, fun k hk => ?_⟩
    obtain ⟨k, rfl⟩ := c_up (k := k) (by omega)
    rw [spec_DrawPlaces.l0, if_pos (by omega), e]
    simp only [Option.bind_some]
    rw [if_pos (by omega), c_inc (n := 12) (by omega) (by omega)]
    exact hp3 k (by omega)
theorem c_DrawPlaces (l : List Int) (hl : l.length ≤ 4611686018427387904) : ∃ p : List Int, p.length = 12 ∧ (∀ j : Nat, j < 12 → 0 ≤ rd p j ∧ rd p j < 10000) ∧ ∀ k, 4000 < k → spec_DrawPlaces.f k l = some p := by
  obtain ⟨h, hh⟩ := c_l01New l hl
  obtain ⟨x, i', h', e, hx0, hx1, s'⟩ := c_byte (l := l) (i := 0) h ⟨by omega, by omega, hl⟩
  obtain ⟨p, hp1, hp2, hp3⟩ := c_places_l 12 [] 0 i' h' rfl (by omega) rfl (by simp) s'
  refine ⟨p, hp1, fun j hj => ?_, fun k hk => ?_⟩
  · rw [c_rd (by omega)]
    exact hp2 _ (List.getElem_mem _)
  · unfold spec_DrawPlaces.f
    rw [hh k hk]
    simp only [Option.bind_some]
    rw [e]
    simp only [Option.bind_some]
    exact hp3 k (by omega)
theorem c_big (l : List Int) : laws_big.f l = some (decide ((l.length : Int) > 1048576)) := rfl

/-! ### lists -/
theorem c_inc' {i n : Nat} (h : i < n) (hn : n ≤ 9223372036854775807) : wrap64 ((i : Int) + 1) = ((i + 1 : Nat) : Int) := by rw [c_wrap (by omega) (by omega)]; omega

/-! ### within -/
def c_in (n l h : Int) : Bool := decide (l ≤ n) && decide (n ≤ h)
theorem c_in_iff {n l h : Int} : c_in n l h = true ↔ l ≤ n ∧ n ≤ h := by simp [c_in]
theorem c_in_no {n l h : Int} : ¬ c_in n l h = true ↔ n < l ∨ h < n := by rw [c_in_iff]; omega

/-! ### instr -/
theorem c_rdI {l : List S64} {i : Nat} (h : i < l.length) : rd_T64 l (i : Int) = l[i]'h := by
  unfold rd_T64
  simp [h]
def c_okI (x : S64) : Bool := c_in x.f0 0 255 && c_in x.f1 0 255
def c_codeOk (l : List S64) : Bool := l.all c_okI && decide (l.length ≤ 60)

/-! ### within_i -/
theorem c_within (n l h : Int) : impl_within.f n l h = some (c_in n l h) := by
  unfold impl_within.f c_in
  by_cases h0 : n ≥ l
  · rw [if_pos h0]; simp [h0]
  · rw [if_neg h0]; simp; omega

/-! ### codeok -/
theorem c_codeOk_impl (l : List S64) (hl : l.length ≤ 1048576) (d : Nat) : ∀ (k i : Nat), l.length - i = d → i ≤ l.length → d < k → impl_CodeOk.l0 k l l (l.length : Int) i = some ((l.drop i).all c_okI && decide (l.length ≤ 60)) := by
  induction d with
  | zero =>
    intro k i hd hi hk
    obtain ⟨k, rfl⟩ := c_up (k := k) (by omega)
    rw [impl_CodeOk.l0, if_neg (by omega), List.drop_eq_nil_of_le (by omega)]
    simp
    omega
  | succ d ih =>
    intro k i hd hi hk
    obtain ⟨k, rfl⟩ := c_up (k := k) (by omega)
    have hd' : l.drop i = l[i]'(by omega) :: l.drop (i + 1) := List.drop_eq_getElem_cons (by omega)
    rw [impl_CodeOk.l0, if_pos (by omega), if_pos (by omega), if_pos (by omega), c_rdI (by omega), c_within, c_within, c_inc' (n := l.length) (by omega) (by omega), ih k (i + 1) (by omega) (by omega) (by omega), hd', List.all_cons]
    simp only [Option.bind_some, c_okI]
    cases c_in (l[i]'(by omega)).f0 0 255 <;> cases c_in (l[i]'(by omega)).f1 0 255 <;> simp
theorem c_CodeOk_impl (l : List S64) (hl : l.length ≤ 1048576) (k : Nat) (hk : l.length < k) : impl_CodeOk.f k l = some (c_codeOk l) := by
  have := c_codeOk_impl l hl l.length k 0 (by omega) (by omega) hk
  simpa [impl_CodeOk.f, c_codeOk] using this

/-! ### cpuok -/
def c_words (l : List Int) : Bool := l.all fun x => c_in x 0 65535
def c_cpuOk (p : Int) (l : List Int) : Bool := c_in p 0 60 && decide (l.length ≤ 8) && c_words l
theorem c_isWord (x : Int) : impl_isWord.f x = some (c_in x 0 65535) := by
  unfold impl_isWord.f
  rw [c_within]
  rfl
theorem c_words_impl (l : List Int) (hl : l.length ≤ 1048576) (d : Nat) : ∀ (k i : Nat), l.length - i = d → i ≤ l.length → d < k → impl_wordsOk.l0 k l (l.length : Int) i = some (c_words (l.drop i)) := by
  induction d with
  | zero =>
    intro k i hd hi hk
    obtain ⟨k, rfl⟩ := c_up (k := k) (by omega)
    rw [impl_wordsOk.l0, if_neg (by omega), List.drop_eq_nil_of_le (by omega)]
    rfl
  | succ d ih =>
    intro k i hd hi hk
    obtain ⟨k, rfl⟩ := c_up (k := k) (by omega)
    have hd' : l.drop i = l[i]'(by omega) :: l.drop (i + 1) := List.drop_eq_getElem_cons (by omega)
    rw [impl_wordsOk.l0, if_pos (by omega), if_pos (by omega), if_pos (by omega), c_rd (by omega), c_isWord, c_inc (n := l.length) (by omega) (by omega), ih k (i + 1) (by omega) (by omega) (by omega), hd']
    simp only [Option.bind_some, c_words, List.all_cons]
    cases c_in (l[i]'(by omega)) 0 65535 <;> simp
theorem c_CpuOk_impl (p : Int) (l : List Int) (hl : l.length ≤ 1048576) (k : Nat) (hk : l.length < k) : impl_CpuOk.f k p l = some (c_cpuOk p l) := by
  have hw := c_words_impl l hl l.length k 0 (by omega) (by omega) hk
  rw [List.drop_zero] at hw
  have e0 : ((0 : Nat) : Int) = 0 := rfl
  rw [e0] at hw
  unfold impl_CpuOk.f impl_wordsOk.f c_cpuOk
  rw [c_within, hw]
  simp only [Option.bind_some]
  by_cases h1 : c_in p 0 60 = true
  · rw [if_pos h1, h1]
    by_cases h2 : l.length ≤ 8
    · rw [if_pos (by omega), decide_eq_true h2]; simp
    · rw [if_neg (by omega), decide_eq_false h2]; simp
  · rw [if_neg h1]
    simp at h1
    rw [h1]; simp

/-! ### cellat -/
def c_at (n : Nat) (f z p : Int) : Int := if 0 ≤ p ∧ p < z ∧ 0 ≤ f ∧ p < (n : Int) - f then f + p else -1
theorem c_at_lt {n : Nat} {f z p : Int} : -1 ≤ c_at n f z p ∧ c_at n f z p < n := by unfold c_at; split <;> omega
theorem c_cellAt (l : List Int) (hl : l.length ≤ 9223372036854775807) (f z p : Int) (hf : f ≤ 9223372036854775807) : impl_cellAt.f l f z p = some (c_at l.length f z p) := by
  unfold impl_cellAt.f c_at
  by_cases h1 : f < 0
  · rw [if_pos h1, if_neg (by omega)]
  · rw [if_neg h1]
    by_cases h2 : p < 0
    · rw [if_pos h2, if_neg (by omega)]
    · rw [if_neg h2]
      by_cases h3 : p ≥ z
      · rw [if_pos h3, if_neg (by omega)]
      · rw [if_neg h3, c_wrap (n := (l.length : Int) - f) (by omega) (by omega)]
        by_cases h4 : p ≥ (l.length : Int) - f
        · rw [if_pos h4, if_neg (by omega)]
        · rw [if_neg h4, if_pos (by omega), c_wrap (by omega) (by omega)]

/-! ### loadcell -/
def c_load (l : List Int) (f z p : Int) : Int × Bool := if c_at l.length f z p < 0 then (0, false) else (rd l (c_at l.length f z p), true)

/-! ### store -/
def c_mod (n : Int) : Int := n % 65536
theorem c_modulo (n : Int) : impl_modulo.f n 65536 = some (c_mod n) := by
  unfold impl_modulo.f c_mod
  have h : -65536 < Int.tmod n 65536 ∧ Int.tmod n 65536 < 65536 := ⟨by have := Int.lt_tmod_of_pos n (b := 65536) (by omega); omega, Int.tmod_lt_of_pos n (by omega)⟩
  have e : (Int.tmod n 65536) % 65536 = n % 65536 := by
    have := Int.tmod_add_mul_tdiv n 65536
    omega
  rw [if_neg (by omega), c_wrap (by omega) (by omega), Int.tmod_eq_emod_of_nonneg (by omega)]
  congr 1
  omega
theorem c_copyInts (l : List Int) (hl : l.length ≤ 1048576) : impl_copyInts.f l = some l := by
  unfold impl_copyInts.f
  simp only [Option.bind_some]
  rw [if_pos (by simp; omega), List.nil_append]
theorem c_copyArena (l : List Int) (hl : l.length ≤ 1048576) : impl_copyArena.f l = some l := by
  unfold impl_copyArena.f
  rw [c_copyInts l hl]
  rfl
def c_store (l : List Int) (f z p n : Int) : List Int × Bool := if c_at l.length f z p < 0 then (l, false) else (l.set (c_at l.length f z p).toNat (c_mod n), true)
theorem c_store_len (l : List Int) (f z p n : Int) : (c_store l f z p n).1.length = l.length := by
  unfold c_store
  split
  · rfl
  · simp

/-! ### trapof -/
def c_takes (op : Int) : Int := if op = 2 ∨ op = 10 ∨ op = 11 ∨ op = 12 ∨ op = 13 ∨ op = 16 then 1 else if op = 3 ∨ op = 4 ∨ op = 5 ∨ op = 6 ∨ op = 7 ∨ op = 8 then 2 else 0
def c_puts (op : Int) : Int := if op = 1 ∨ op = 2 ∨ op = 4 ∨ op = 5 ∨ op = 6 ∨ op = 7 ∨ op = 8 ∨ op = 17 then 1 else if op = 11 then 2 else 0
theorem c_takes_impl (op : Int) (k : Nat) (hk : 0 < k) : impl_takes.f k op = some (c_takes op) := by
  obtain ⟨k, rfl⟩ := c_up hk
  by_cases a2 : op = 2
  · subst a2; rfl
  by_cases a10 : op = 10
  · subst a10; rfl
  by_cases a11 : op = 11
  · subst a11; rfl
  by_cases a12 : op = 12
  · subst a12; rfl
  by_cases a13 : op = 13
  · subst a13; rfl
  by_cases a16 : op = 16
  · subst a16; rfl
  by_cases a3 : op = 3
  · subst a3; rfl
  by_cases a4 : op = 4
  · subst a4; rfl
  by_cases a5 : op = 5
  · subst a5; rfl
  by_cases a6 : op = 6
  · subst a6; rfl
  by_cases a7 : op = 7
  · subst a7; rfl
  by_cases a8 : op = 8
  · subst a8; rfl
  unfold impl_takes.f c_takes
  rw [if_neg a2, if_neg a10, if_neg a11, if_neg a12, if_neg a13]
  simp [impl_takes.j0, a2, a10, a11, a12, a13, a16, a3, a4, a5, a6, a7, a8]
theorem c_puts_impl (op : Int) (k : Nat) (hk : 0 < k) : impl_puts.f k op = some (c_puts op) := by
  obtain ⟨k, rfl⟩ := c_up hk
  by_cases a1 : op = 1
  · subst a1; rfl
  by_cases a2 : op = 2
  · subst a2; rfl
  by_cases a4 : op = 4
  · subst a4; rfl
  by_cases a5 : op = 5
  · subst a5; rfl
  by_cases a6 : op = 6
  · subst a6; rfl
  by_cases a7 : op = 7
  · subst a7; rfl
  by_cases a8 : op = 8
  · subst a8; rfl
  by_cases a17 : op = 17
  · subst a17; rfl
  by_cases a11 : op = 11
  · subst a11; rfl
  unfold impl_puts.f c_puts
  rw [if_neg a1, if_neg a2, if_neg a4, if_neg a5, if_neg a6, if_neg a7, if_neg a8]
  simp [impl_puts.j0, a1, a2, a4, a5, a6, a7, a8, a17, a11]
theorem c_takes_b (op : Int) : 0 ≤ c_takes op ∧ c_takes op ≤ 2 := by
  unfold c_takes
  split
  · omega
  · split <;> omega
theorem c_puts_b (op : Int) : 0 ≤ c_puts op ∧ c_puts op ≤ 2 := by
  unfold c_puts
  split
  · omega
  · split <;> omega
theorem c_trapOf_no (pc : Int) (st : List Int) (code : List S64) (ar : List Int) (f z : Int) (hs : st.length ≤ 1048576) (hcl : code.length ≤ 1048576) (h : c_cpuOk pc st = false ∨ c_codeOk code = false ∨ (code.length : Int) ≤ pc) (k : Nat) (hk : st.length < k) (hk2 : code.length < k) :
    impl_trapOf.f k pc st code ar f z = some 6 := by
  unfold impl_trapOf.f
  rw [c_CpuOk_impl pc st hs k hk, c_CodeOk_impl code hcl k hk2]
  obtain ⟨k, rfl⟩ := c_up (k := k) (by omega)
  simp only [Option.bind_some]
  by_cases h1 : c_cpuOk pc st = true
  · rw [if_pos h1]
    by_cases h2 : c_codeOk code = true
    · rw [if_pos h2, impl_trapOf.j0, if_pos]
      rcases h with h | h | h
      · rw [h1] at h; cases h
      · rw [h2] at h; cases h
      · exact decide_eq_true h
    · rw [if_neg h2, impl_trapOf.j0, if_pos rfl]
  · rw [if_neg h1, impl_trapOf.j0, if_pos rfl]
theorem c_trapOf_op (pc : Int) (st : List Int) (code : List S64) (ar : List Int) (f z op arg : Int) (hs : st.length ≤ 1048576) (hcl : code.length ≤ 1048576) (h1 : c_cpuOk pc st = true) (h2 : c_codeOk code = true) (hp : 0 ≤ pc) (hq : pc < (code.length : Int)) (hx : rd_T64 code pc = ⟨op, arg⟩) (ho : c_in op 0 17 = false) (k : Nat) (hk : st.length < k) (hk2 : code.length < k) :
    impl_trapOf.f k pc st code ar f z = some 1 := by
  unfold impl_trapOf.f
  rw [c_CpuOk_impl pc st hs k hk, c_CodeOk_impl code hcl k hk2]
  obtain ⟨k, rfl⟩ := c_up (k := k) (by omega)
  simp only [Option.bind_some]
  rw [if_pos h1, if_pos h2, impl_trapOf.j0, if_neg (by rw [decide_eq_true_iff]; omega), if_pos hp, if_pos hq, hx]
  unfold impl_hasOp.f
  rw [c_within]
  simp only [Option.bind_some]
  rw [ho, if_neg (by decide)]
theorem c_trapOf (pc : Int) (st : List Int) (code : List S64) (ar : List Int) (f z op arg : Int) (hs : st.length ≤ 8) (hcl : code.length ≤ 60) (h1 : c_cpuOk pc st = true) (h2 : c_codeOk code = true) (hp : 0 ≤ pc) (hq : pc < (code.length : Int)) (hx : rd_T64 code pc = ⟨op, arg⟩) (ho : c_in op 0 17 = true) (n2 : op ≠ 2) (n3 : op ≠ 3) (k : Nat) (hk : 70 ≤ k) :
    impl_trapOf.f k pc st code ar f z = some (if (st.length : Int) < c_takes op then 5 else if op = 7 ∧ rd st ((st.length : Int) - 1) = 0 then 3 else if (st.length : Int) - c_takes op + c_puts op > 8 then 4 else 0) := by
  have ht := c_takes_b op
  have hu := c_puts_b op
  unfold impl_trapOf.f
  rw [c_CpuOk_impl pc st (by omega) k (by omega), c_CodeOk_impl code (by omega) k (by omega)]
  obtain ⟨k, rfl⟩ := c_up (k := k) (by omega)
  obtain ⟨k, rfl⟩ := c_up (k := k) (by omega)
  obtain ⟨k, rfl⟩ := c_up (k := k) (by omega)
  obtain ⟨k, rfl⟩ := c_up (k := k) (by omega)
  simp only [Option.bind_some]
  rw [if_pos h1, if_pos h2, impl_trapOf.j0, if_neg (by rw [decide_eq_true_iff]; omega), if_pos hp, if_pos hq, hx]
  unfold impl_hasOp.f
  rw [c_within]
  simp only [Option.bind_some]
  rw [ho, if_pos rfl, c_takes_impl op _ (by omega)]
  simp only [Option.bind_some]
  by_cases hlt : (st.length : Int) < c_takes op
  · rw [if_pos hlt, if_pos hlt]
  · have j3 : ∀ b : Bool, impl_trapOf.j3 (k + 1) (st.length : Int) b op arg = some (if b = true then 3 else if (st.length : Int) - c_takes op + c_puts op > 8 then 4 else 0) := by
      intro b
      rw [impl_trapOf.j3]
      cases b
      · rw [if_neg (by decide), if_neg (by decide), c_takes_impl op _ (by omega), c_puts_impl op _ (by omega)]
        simp only [Option.bind_some]
        rw [c_wrap (n := (st.length : Int) - c_takes op) (by omega) (by omega), c_wrap (n := (st.length : Int) - c_takes op + c_puts op) (by omega) (by omega)]
        split <;> rfl
      · rfl
    rw [if_neg hlt, if_neg hlt, if_neg n2, impl_trapOf.j1, if_neg (by decide), if_neg n3, impl_trapOf.j2, if_neg (by decide)]
    by_cases h7 : op = 7
    · have h2t : c_takes op = 2 := by rw [h7]; rfl
      rw [if_pos h7, c_wrap (n := (st.length : Int) - 1) (by omega) (by omega), if_pos (by omega), if_pos (by omega), j3]
      by_cases hz : rd st ((st.length : Int) - 1) = 0
      · rw [if_pos (c := (rd st ((st.length : Int) - 1) == 0) = true) (beq_iff_eq.mpr hz), if_pos (c := op = 7 ∧ rd st ((st.length : Int) - 1) = 0) ⟨h7, hz⟩]
      · rw [if_neg (c := (rd st ((st.length : Int) - 1) == 0) = true) (by rw [beq_iff_eq]; exact hz), if_neg (c := op = 7 ∧ rd st ((st.length : Int) - 1) = 0) (fun h => hz h.2)]
    · rw [if_neg h7, j3, if_neg (c := false = true) (by decide), if_neg (c := op = 7 ∧ rd st ((st.length : Int) - 1) = 0) (fun h => h7 h.1)]
theorem c_copyCpu (pc : Int) (st : List Int) (hl : st.length ≤ 1048576) : impl_copyCpu.f pc st = some (pc, st) := by
  unfold impl_copyCpu.f
  rw [c_copyInts st hl]
  rfl
/-- A step that ends in a trap. -/
theorem c_step_trap (pc : Int) (st : List Int) (code : List S64) (ar : List Int) (f z t e : Int) (hs : st.length ≤ 1048576) (ha : ar.length ≤ 1048576) (k : Nat) (ht : impl_trapOf.f k pc st code ar f z = some e) (he : e ≠ 0) :
    impl_StepCpu.f k pc st code ar f z t = some (pc, st, ar, 0, 0, 0, e) := by
  unfold impl_StepCpu.f
  rw [c_copyCpu pc st hs, c_copyArena ar ha, ht]
  simp only [Option.bind_some]
  rw [if_neg he]

/-! ### step1 -/
/-- A step without a trap. -/
theorem c_step (pc : Int) (st : List Int) (code : List S64) (ar : List Int) (f z t op arg : Int) (hs : st.length ≤ 8) (ha : ar.length ≤ 1048576) (k : Nat) (hk : 70 ≤ k) (ht : impl_trapOf.f k pc st code ar f z = some 0) (hp : 0 ≤ pc) (hp60 : pc ≤ 60) (hq : pc < (code.length : Int)) (hx : rd_T64 code pc = ⟨op, arg⟩) (n : Nat) (hn : c_takes op = (n : Int)) (hnl : n ≤ st.length) :
    impl_StepCpu.f k pc st code ar f z t = impl_StepCpu.o op arg (pc + 1) t (st.take (st.length - n)) (st.drop (st.length - n)) ar := by
  unfold impl_StepCpu.f
  rw [c_copyCpu pc st (by omega), c_copyArena ar ha, ht]
  simp only [Option.bind_some]
  rw [if_pos trivial, if_pos ⟨hp, hq⟩, hx, c_takes_impl op k (by omega), hn]
  simp only [Option.bind_some]
  rw [if_pos ⟨by omega, by omega, by omega⟩, c_wrap (n := pc + 1) (by omega) (by omega)]
  rfl

/-! ### the law -/
theorem FnTraps (l : List Int) (hl : l.length ≤ maxLen) (_ : l.length * 1 ≤ 140737488351232) (_ : ∀ x ∈ l, (Lit.int .u8 x).wf = true) : ∃ k, laws_FnTraps.f k l = some true := by
  unfold maxLen at hl
  by_cases hb : (l.length : Int) > 1048576
  · refine ⟨0, ?_⟩
    unfold laws_FnTraps.f
    rw [c_big]
    simp only [Option.bind_some]
    rw [if_pos (decide_eq_true hb)]
  · obtain ⟨p, hp, hr, hpl⟩ := c_DrawPlaces l (by omega)
    have h0 : 0 ≤ rd p 0 ∧ rd p 0 < 10000 := hr 0 (by omega)
    have h1 : 0 ≤ rd p 1 ∧ rd p 1 < 10000 := hr 1 (by omega)
    have h2 : 0 ≤ rd p 2 ∧ rd p 2 < 10000 := hr 2 (by omega)
    refine ⟨4936, ?_⟩
    unfold laws_FnTraps.f
    rw [c_big]
    simp only [Option.bind_some]
    rw [if_neg (by rw [decide_eq_true_iff]; exact hb), hpl _ (by omega)]
    simp only [Option.bind_some]
    unfold impl_ArenaNew.f
    rw [if_pos (by omega)]
    simp only [Option.bind_some]
    generalize rd p 0 = a at h0
    generalize rd p 1 = b at h1
    generalize rd p 2 = c at h2
    obtain ⟨q, hq⟩ : ∃ x, x = Int.tmod a 60 := ⟨_, rfl⟩
    have hq1 : 0 ≤ q := by rw [hq, Int.tmod_eq_emod_of_nonneg (by omega)]; omega
    obtain ⟨n, hn⟩ : ∃ x, x = wrap64 (18 + Int.tmod b 200) := ⟨_, rfl⟩
    have hn1 : 18 ≤ n ∧ n ≤ 217 := by
      have h3 : 0 ≤ Int.tmod b 200 ∧ Int.tmod b 200 < 200 := by rw [Int.tmod_eq_emod_of_nonneg (by omega)]; omega
      rw [hn, c_wrap (by omega) (by omega)]
      omega
    rw [← hq, ← hn]
    have hx : ∀ op arg : Int, rd_T64 [(⟨op, arg⟩ : S64)] 0 = ⟨op, arg⟩ := fun op arg => rfl
    have hcode : ∀ op arg : Int, 0 ≤ op → op ≤ 255 → 0 ≤ arg → arg ≤ 255 → c_codeOk [(⟨op, arg⟩ : S64)] = true := by
      intro op arg ha hb hc hd
      simp only [c_codeOk, List.all_cons, List.all_nil, c_okI, List.length_cons, List.length_nil]
      rw [c_in_iff.2 ⟨ha, hb⟩, c_in_iff.2 ⟨hc, hd⟩]
      rfl
    have s1 : impl_StepCpu.f 4936 0 [] [(⟨4, 0⟩ : S64)] (List.replicate 64 0) 0 4 0 = some (0, [], List.replicate 64 0, 0, 0, 0, 5) :=
      c_step_trap 0 [] _ _ 0 4 0 5 (by simp) (by simp) 4936 ((c_trapOf 0 [] _ _ 0 4 4 0 (by simp) (by simp) rfl (hcode 4 0 (by omega) (by omega) (by omega) (by omega)) (by omega) (by simp) (hx 4 0) rfl (by omega) (by omega) 4936 (by omega)).trans rfl) (by omega)
    have s2 : impl_StepCpu.f 4936 q [] ([] : List S64) (List.replicate 64 0) 0 4 0 = some (q, [], List.replicate 64 0, 0, 0, 0, 6) :=
      c_step_trap q [] _ _ 0 4 0 6 (by simp) (by simp) 4936 (c_trapOf_no q [] _ _ 0 4 (by simp) (by simp) (.inr (.inr (by simpa using hq1))) 4936 (by simp) (by simp)) (by omega)
    have s3 : impl_StepCpu.f 4936 0 [] [(⟨n, 0⟩ : S64)] (List.replicate 64 0) 0 4 0 = some (0, [], List.replicate 64 0, 0, 0, 0, 1) :=
      c_step_trap 0 [] _ _ 0 4 0 1 (by simp) (by simp) 4936 (c_trapOf_op 0 [] _ _ 0 4 n 0 (by simp) (by simp) rfl (hcode n 0 (by omega) (by omega) (by omega) (by omega)) (by omega) (by simp) (hx n 0) (by rw [Bool.eq_false_iff]; exact c_in_no.2 (.inr (by omega))) 4936 (by simp) (by simp)) (by omega)
    have s4 : impl_StepCpu.f 4936 0 (List.replicate 8 0) [(⟨1, 1⟩ : S64)] (List.replicate 64 0) 0 4 0 = some (0, List.replicate 8 0, List.replicate 64 0, 0, 0, 0, 4) :=
      c_step_trap 0 _ _ _ 0 4 0 4 (by simp) (by simp) 4936 ((c_trapOf 0 (List.replicate 8 0) _ _ 0 4 1 1 (by simp) (by simp) rfl (hcode 1 1 (by omega) (by omega) (by omega) (by omega)) (by omega) (by simp) (hx 1 1) rfl (by omega) (by omega) 4936 (by omega)).trans rfl) (by omega)
    have s5 : impl_StepCpu.f 4936 0 [] [(⟨17, 0⟩ : S64)] (List.replicate 64 0) 0 4 c = some (1, [c], List.replicate 64 0, 0, 0, 0, 0) := by
      rw [c_step 0 [] _ _ 0 4 c 17 0 (by simp) (by simp) 4936 (by omega) ((c_trapOf 0 [] _ _ 0 4 17 0 (by simp) (by simp) rfl (hcode 17 0 (by omega) (by omega) (by omega) (by omega)) (by omega) (by simp) (hx 17 0) rfl (by omega) (by omega) 4936 (by omega)).trans rfl) (by omega) (by omega) (by simp) (hx 17 0) 0 rfl (by simp)]
      unfold impl_StepCpu.o
      rw [if_neg (by omega), if_neg (by omega), if_neg (by omega), if_pos rfl, c_modulo]
      have h4 : c_mod c = c := by unfold c_mod; omega
      rw [h4]
      rfl
    rw [s1, s2, s3, s4, s5]
    simp only [Option.bind_some]
    rw [if_pos (by omega), if_pos (by omega), if_pos (by decide), if_pos (by omega), if_pos trivial, if_pos trivial, if_pos trivial, if_pos trivial, if_pos trivial, if_pos (by simp)]
    simp [rd]

end Go.Proofs.Yteehopjgmgelnaa.Pure
