/- ArenaNew of the program answers as the reference's ArenaNew, in memory of its own, call by call. No condition. -/
import Derived.Test.YtdbogijlpplcgaaPFnExactArenaNewx1
namespace Go.Proofs.Ytdbogijlpplcgaa.Pure
open Go.RowKit Go.Proofs.Ytdbogijlpplcgaa.PFnExactArenaNew Go.Proofs.YtdbogijlpplcgaaW.PrintWords Go.Proofs.YtdbogijlpplcgaaW.PrintLast
set_option linter.unusedVariables false
set_option linter.unusedSimpArgs false

/-! ### base -/
theorem c_wrap {n : Int} (h0 : -9223372036854775808 ≤ n) (h1 : n ≤ 9223372036854775807) : wrap64 n = n := by unfold wrap64; omega
theorem c_wf {n : Int} (h : (Lit.int .i64 n).wf = true) : -9223372036854775808 ≤ n ∧ n ≤ 9223372036854775807 := by
  simpa [Lit.wf, IntKind.min, IntKind.max, IntKind.signed, IntKind.bits] using h
theorem c_wf32 {n : Int} (h : (Lit.int .u32 n).wf = true) : 0 ≤ n ∧ n ≤ 4294967295 := by
  simpa [Lit.wf, IntKind.min, IntKind.max, IntKind.signed, IntKind.bits] using h
theorem c_up {k : Nat} (h : 0 < k) : ∃ m, k = m + 1 := ⟨k - 1, by omega⟩

/-! ### ints -/
theorem c_rd {l : List Int} {i : Nat} (h : i < l.length) : rd l (i : Int) = l[i]'h := by
  unfold rd
  simp [h]
theorem c_rd_app (pre : List Int) (a : Int) (l : List Int) : rd (pre ++ a :: l) (pre.length : Int) = a := by
  unfold rd
  simp
theorem c_inc {i n : Nat} (h : i < n) (hn : n ≤ 9223372036854775807) : wrap64 ((i : Int) + 1) = ((i + 1 : Nat) : Int) := by rw [c_wrap (by omega) (by omega)]; omega

/-! ### eqints -/
theorem c_eqInts_l (l : List Int) (hl : l.length ≤ 9223372036854775807) (d : Nat) : ∀ (k i : Nat), l.length - i = d → i ≤ l.length → d < k → laws_eqIntS.l0 k l l i = some true := by
  induction d with
  | zero =>
    intro k i hd hi hk
    obtain ⟨k, rfl⟩ := c_up (k := k) (by omega)
    rw [laws_eqIntS.l0, if_neg (by omega)]
  | succ d ih =>
    intro k i hd hi hk
    obtain ⟨k, rfl⟩ := c_up (k := k) (by omega)
    rw [laws_eqIntS.l0, if_pos (by omega), if_pos (by omega), if_pos (by omega), if_pos rfl, c_inc (n := l.length) (by omega) hl]
    exact ih k (i + 1) (by omega) (by omega) (by omega)
theorem c_eqInts (l : List Int) (hl : l.length ≤ 9223372036854775807) (k : Nat) (hk : l.length < k) : laws_eqIntS.f k l l = some true := by
  unfold laws_eqIntS.f
  rw [if_pos rfl]
  exact c_eqInts_l l hl l.length k 0 (by omega) (by omega) hk

/-! ### markints -/
def c_seq (m : Int) (n : Nat) : List Int := (List.range n).map fun (i : Nat) => m + (i : Int)
theorem c_seq_len (m : Int) (n : Nat) : (c_seq m n).length = n := by simp [c_seq]
theorem c_seq_succ (m : Int) (n : Nat) : c_seq m (n + 1) = c_seq m n ++ [m + (n : Int)] := by simp [c_seq, List.range_succ]
theorem c_markInts_l (m : Int) (h0 : 0 ≤ m) (l : List Int) : ∀ (k i : Nat), m + (i : Int) + l.length ≤ 9223372036854775807 → l.length < k → laws_markIntS.l0 k (c_seq m i ++ l) (m + (i : Int)) i = some (m + (i : Int) + l.length, c_seq m (i + l.length)) := by
  induction l with
  | nil =>
    intro k i hb hk
    obtain ⟨k, rfl⟩ := c_up (k := k) (by omega)
    rw [List.append_nil, laws_markIntS.l0, if_neg (by rw [c_seq_len]; omega)]
    simp
  | cons a l ih =>
    intro k i hb hk
    rw [List.length_cons] at hb hk
    obtain ⟨k, rfl⟩ := c_up (k := k) (by omega)
    have hlen : (c_seq m i ++ a :: l).length = i + (l.length + 1) := by rw [List.length_append, c_seq_len, List.length_cons]
    have hset : (c_seq m i ++ a :: l).set ((i : Int)).toNat (m + (i : Int)) = c_seq m (i + 1) ++ l := by
      rw [Int.toNat_natCast, List.set_append_right _ _ (by rw [c_seq_len]; omega), c_seq_len, Nat.sub_self, List.set_cons_zero, c_seq_succ, List.append_assoc]
      rfl
    have e1 : m + (i : Int) + 1 = m + ((i + 1 : Nat) : Int) := by omega
    have := ih k (i + 1) (by omega) (by omega)
    rw [laws_markIntS.l0, if_pos (by rw [hlen]; omega), if_pos (by omega), hset, c_inc (n := 9223372036854775807) (by omega) (by omega), c_wrap (n := m + (i : Int) + 1) (by omega) (by omega), e1, this]
    congr 2
    · rw [List.length_cons]; omega
    · congr 1
      rw [List.length_cons]; omega
theorem c_markInts (l : List Int) (m : Int) (h0 : 0 ≤ m) (hb : m + l.length ≤ 9223372036854775807) (k : Nat) (hk : l.length < k) : laws_markIntS.f k l m = some (m + l.length, c_seq m l.length) := by
  have := c_markInts_l m h0 l k 0 (by omega) hk
  unfold laws_markIntS.f
  simpa [c_seq] using this
theorem c_heldInts_l (m : Int) (h0 : 0 ≤ m) (n : Nat) (hb : m + n ≤ 9223372036854775807) (d : Nat) : ∀ (k i : Nat), n - i = d → i ≤ n → d < k → laws_heldIntS.l0 k (c_seq m n) (m + (i : Int)) i = some (m + (n : Int)) := by
  induction d with
  | zero =>
    intro k i hd hi hk
    obtain ⟨k, rfl⟩ := c_up (k := k) (by omega)
    rw [laws_heldIntS.l0, if_neg (by rw [c_seq_len]; omega)]
    have : i = n := by omega
    rw [this]
  | succ d ih =>
    intro k i hd hi hk
    obtain ⟨k, rfl⟩ := c_up (k := k) (by omega)
    have hr : rd (c_seq m n) (i : Int) = m + (i : Int) := by
      rw [c_rd (by rw [c_seq_len]; omega)]
      simp [c_seq]
    have e1 : m + (i : Int) + 1 = m + ((i + 1 : Nat) : Int) := by omega
    have := ih k (i + 1) (by omega) (by omega) (by omega)
    rw [laws_heldIntS.l0, if_pos (by rw [c_seq_len]; omega), if_pos (by omega), if_pos hr, c_inc (n := n) (by omega) (by omega), c_wrap (n := m + (i : Int) + 1) (by omega) (by omega), e1, this]
theorem c_heldInts (m : Int) (h0 : 0 ≤ m) (n : Nat) (hb : m + n ≤ 9223372036854775807) (k : Nat) (hk : n < k) : laws_heldIntS.f k (c_seq m n) m = some (m + (n : Int)) := by
  have := c_heldInts_l m h0 n hb n k 0 (by omega) (by omega) hk
  unfold laws_heldIntS.f
  simpa using this

/-! ### arenaeq -/
theorem c_eqArena (l : List Int) (hl : l.length ≤ 9223372036854775807) (k : Nat) (hk : l.length < k) : laws_eqArena.f k l l = some true := by
  unfold laws_eqArena.f
  rw [c_eqInts l hl k hk]
  rfl
theorem c_markArena (l : List Int) (m : Int) (h0 : 0 ≤ m) (hb : m + l.length ≤ 9223372036854775807) (k : Nat) (hk : l.length < k) : laws_markArena.f k l m = some (m + l.length, c_seq m l.length) := by
  unfold laws_markArena.f
  rw [c_markInts l m h0 hb k hk]
  rfl
theorem c_heldArena (m : Int) (h0 : 0 ≤ m) (n : Nat) (hb : m + n ≤ 9223372036854775807) (k : Nat) (hk : n < k) : laws_heldArena.f k (c_seq m n) m = some (m + (n : Int)) := by
  unfold laws_heldArena.f
  rw [c_heldInts m h0 n hb k hk]
  simp only [Option.bind_some]
  rw [if_neg (by omega)]

/-! ### the law -/
theorem FnExactArenaNew : laws_FnExactArenaNew.Pure := by
  refine ⟨65, ?_⟩
  have hl : (List.replicate 64 (0 : Int)).length = 64 := List.length_replicate
  have e1 : spec_ArenaNew.f = some (List.replicate 64 0) := by unfold spec_ArenaNew.f; rw [if_pos (by omega)]
  have e2 : impl_ArenaNew.f = some (List.replicate 64 0) := by unfold impl_ArenaNew.f; rw [if_pos (by omega)]
  unfold laws_FnExactArenaNew.f
  rw [e1, e2]
  simp only [Option.bind_some]
  generalize List.replicate 64 (0 : Int) = l at *
  rw [c_eqArena l (by omega) 65 (by omega)]
  simp only [Option.bind_some, if_true]
  rw [c_markArena l 1 (by omega) (by omega) 65 (by omega)]
  simp only [Option.bind_some]
  rw [c_heldArena 1 (by omega) l.length (by omega) 65 (by omega)]
  simp only [Option.bind_some]
  rw [if_neg (by omega), if_true, if_neg (by omega), if_true]

end Go.Proofs.Ytdbogijlpplcgaa.Pure
