/- CodeText of the program answers as the reference's CodeText, for every list of instructions (the law itself answers true of one of more than 2^20). -/
import Derived.Test.YtimeeohggjagfaaPFnExactCodeTextx0
import Derived.Test.YtimeeohggjagfaaPFnExactCodeTextx1
import Derived.Test.YtimeeohggjagfaaPFnExactCodeTextx2
namespace Go.Proofs.Ytimeeohggjagfaa.Pure
open Go.RowKit Go.Proofs.Ytimeeohggjagfaa.PFnExactCodeText Go.Proofs.YtimeeohggjagfaaW.PrintWords Go.Proofs.YtimeeohggjagfaaW.PrintLast
set_option linter.unusedVariables false
set_option linter.unusedSimpArgs false

/-! ### base -/
theorem c_wrap {n : Int} (h0 : -9223372036854775808 ≤ n) (h1 : n ≤ 9223372036854775807) : wrap64 n = n := by unfold wrap64; omega
theorem c_wf {n : Int} (h : (Lit.int .i64 n).wf = true) : -9223372036854775808 ≤ n ∧ n ≤ 9223372036854775807 := by
  simpa [Lit.wf, IntKind.min, IntKind.max, IntKind.signed, IntKind.bits] using h
theorem c_wf32 {n : Int} (h : (Lit.int .u32 n).wf = true) : 0 ≤ n ∧ n ≤ 4294967295 := by
  simpa [Lit.wf, IntKind.min, IntKind.max, IntKind.signed, IntKind.bits] using h
theorem c_up {k : Nat} (h : 0 < k) : ∃ m, k = m + 1 := ⟨k - 1, by omega⟩

/-! ### lists -/
theorem c_inc' {i n : Nat} (h : i < n) (hn : n ≤ 9223372036854775807) : wrap64 ((i : Int) + 1) = ((i + 1 : Nat) : Int) := by rw [c_wrap (by omega) (by omega)]; omega

/-! ### within -/
def c_in (n l h : Int) : Bool := decide (l ≤ n) && decide (n ≤ h)
theorem c_in_iff {n l h : Int} : c_in n l h = true ↔ l ≤ n ∧ n ≤ h := by simp [c_in]
theorem c_in_no {n l h : Int} : ¬ c_in n l h = true ↔ n < l ∨ h < n := by rw [c_in_iff]; omega

/-! ### instr -/
theorem c_rdI {l : List S98} {i : Nat} (h : i < l.length) : rd_T98 l (i : Int) = l[i]'h := by
  unfold rd_T98
  simp [h]
def c_okI (x : S98) : Bool := c_in x.f0 0 255 && c_in x.f1 0 255
def c_codeOk (l : List S98) : Bool := l.all c_okI && decide (l.length ≤ 60)

/-! ### within_s -/
theorem c_l01In (n l h : Int) : spec_l01In.f n l h = some (c_in n l h) := by
  unfold spec_l01In.f c_in
  by_cases h0 : n ≥ l
  · rw [if_pos h0]; simp [h0]
  · rw [if_neg h0]; simp; omega

/-! ### within_i -/
theorem c_within (n l h : Int) : impl_within.f n l h = some (c_in n l h) := by
  unfold impl_within.f c_in
  by_cases h0 : n ≥ l
  · rw [if_pos h0]; simp [h0]
  · rw [if_neg h0]; simp; omega

/-! ### codeok -/
theorem c_codeOk_spec (l : List S98) (hl : l.length ≤ 1048576) (d : Nat) : ∀ (k i : Nat), l.length - i = d → i ≤ l.length → d < k → spec_CodeOk.l0 k l i = some ((l.drop i).all c_okI && decide (l.length ≤ 60)) := by
  induction d with
  | zero =>
    intro k i hd hi hk
    obtain ⟨k, rfl⟩ := c_up (k := k) (by omega)
    rw [spec_CodeOk.l0, if_neg (by omega), List.drop_eq_nil_of_le (by omega)]
    simp
    omega
  | succ d ih =>
    intro k i hd hi hk
    obtain ⟨k, rfl⟩ := c_up (k := k) (by omega)
    have hd' : l.drop i = l[i]'(by omega) :: l.drop (i + 1) := List.drop_eq_getElem_cons (by omega)
    rw [spec_CodeOk.l0, if_pos (by omega), if_pos (by omega), c_rdI (by omega), c_l01In, c_l01In, c_inc' (n := l.length) (by omega) (by omega), ih k (i + 1) (by omega) (by omega) (by omega), hd', List.all_cons]
    simp only [Option.bind_some, c_okI]
    cases c_in (l[i]'(by omega)).f0 0 255 <;> cases c_in (l[i]'(by omega)).f1 0 255 <;> simp
theorem c_codeOk_impl (l : List S98) (hl : l.length ≤ 1048576) (d : Nat) : ∀ (k i : Nat), l.length - i = d → i ≤ l.length → d < k → impl_CodeOk.l0 k l l (l.length : Int) i = some ((l.drop i).all c_okI && decide (l.length ≤ 60)) := by
  induction d with
  | zero =>
    intro k i hd hi hk
    obtain ⟨k, rfl⟩ := c_up (k := k) (by omega)
    rw [impl_CodeOk.l0, if_neg (by omega), List.drop_eq_nil_of_le (by omega)]
    simp
    omega
  | succ d ih =>
    intro k i hd hi hk
    obtain ⟨k, rfl⟩ := c_up (k := k) (by omega)
    have hd' : l.drop i = l[i]'(by omega) :: l.drop (i + 1) := List.drop_eq_getElem_cons (by omega)
    rw [impl_CodeOk.l0, if_pos (by omega), if_pos (by omega), if_pos (by omega), c_rdI (by omega), c_within, c_within, c_inc' (n := l.length) (by omega) (by omega), ih k (i + 1) (by omega) (by omega) (by omega), hd', List.all_cons]
    simp only [Option.bind_some, c_okI]
    cases c_in (l[i]'(by omega)).f0 0 255 <;> cases c_in (l[i]'(by omega)).f1 0 255 <;> simp
theorem c_CodeOk_spec (l : List S98) (hl : l.length ≤ 1048576) (k : Nat) (hk : l.length < k) : spec_CodeOk.f k l = some (c_codeOk l) := by
  have := c_codeOk_spec l hl l.length k 0 (by omega) (by omega) hk
  simpa [spec_CodeOk.f, c_codeOk] using this
theorem c_CodeOk_impl (l : List S98) (hl : l.length ≤ 1048576) (k : Nat) (hk : l.length < k) : impl_CodeOk.f k l = some (c_codeOk l) := by
  have := c_codeOk_impl l hl l.length k 0 (by omega) (by omega) hk
  simpa [impl_CodeOk.f, c_codeOk] using this

/-! ### codetext -/
def c_text (l : List S98) : List Int := l.flatMap fun x => [x.f0 % 256, x.f1 % 256]
theorem c_text_cons (x : S98) (l : List S98) : c_text (x :: l) = [x.f0 % 256, x.f1 % 256] ++ c_text l := rfl
def c_codeText (l : List S98) : ByteArray × Bool := if c_codeOk l = true then (strOfNums (c_text l), true) else ((⟨#[]⟩ : ByteArray), false)
theorem c_codeText_impl (l : List S98) (hl : l.length ≤ 1048576) (d : Nat) : ∀ (k i : Nat) (acc : List Int), l.length - i = d → i ≤ l.length → d < k → acc.length + 2 * d < 140737488355328 → impl_CodeText.l0 k acc l (l.length : Int) i = some (strOfNums (acc ++ c_text (l.drop i)), true) := by
  induction d with
  | zero =>
    intro k i acc hd hi hk hb
    obtain ⟨k, rfl⟩ := c_up (k := k) (by omega)
    rw [impl_CodeText.l0, if_neg (by omega), List.drop_eq_nil_of_le (by omega)]
    simp [c_text]
  | succ d ih =>
    intro k i acc hd hi hk hb
    obtain ⟨k, rfl⟩ := c_up (k := k) (by omega)
    have hd' : l.drop i = l[i]'(by omega) :: l.drop (i + 1) := List.drop_eq_getElem_cons (by omega)
    rw [impl_CodeText.l0, if_pos (by omega), if_pos (by omega), if_pos (by omega), c_rdI (by omega)]
    simp only [Option.bind_some, List.length_cons, List.length_nil]
    rw [if_pos (by omega), c_inc' (n := l.length) (by omega) (by omega), ih k (i + 1) _ (by omega) (by omega) (by omega) (by simp; omega), hd', c_text_cons, List.append_assoc]
theorem c_CodeText_impl (l : List S98) (hl : l.length ≤ 1048576) (k : Nat) (hk : l.length < k) : impl_CodeText.f k l = some (c_codeText l) := by
  unfold impl_CodeText.f c_codeText
  rw [c_CodeOk_impl l hl k hk]
  simp only [Option.bind_some]
  by_cases h : c_codeOk l = true
  · rw [if_pos h, if_pos h]
    have := c_codeText_impl l hl l.length k 0 [] (by omega) (by omega) hk (by simp; omega)
    simpa using this
  · rw [if_neg h, if_neg h]
theorem c_codeText_spec (l : List S98) (hl : l.length ≤ 1048576) (d : Nat) : ∀ (k i : Nat) (acc : List Int), l.length - i = d → i ≤ l.length → d < k → acc.length + 2 * d < 140737488355328 → spec_CodeText.l0 k l acc i = some (strOfNums (acc ++ c_text (l.drop i)), true) := by
  induction d with
  | zero =>
    intro k i acc hd hi hk hb
    obtain ⟨k, rfl⟩ := c_up (k := k) (by omega)
    rw [spec_CodeText.l0, if_neg (by omega), List.drop_eq_nil_of_le (by omega)]
    simp [c_text]
  | succ d ih =>
    intro k i acc hd hi hk hb
    obtain ⟨k, rfl⟩ := c_up (k := k) (by omega)
    have hd' : l.drop i = l[i]'(by omega) :: l.drop (i + 1) := List.drop_eq_getElem_cons (by omega)
    rw [spec_CodeText.l0, if_pos (by omega), if_pos (by omega), c_rdI (by omega)]
    simp only [Option.bind_some, List.length_cons, List.length_nil]
    rw [if_pos (by omega), c_inc' (n := l.length) (by omega) (by omega), ih k (i + 1) _ (by omega) (by omega) (by omega) (by simp; omega), hd', c_text_cons, List.append_assoc]
theorem c_CodeText_spec (l : List S98) (hl : l.length ≤ 1048576) (k : Nat) (hk : l.length < k) : spec_CodeText.f k l = some (c_codeText l) := by
  unfold spec_CodeText.f c_codeText
  rw [c_CodeOk_spec l hl k hk]
  simp only [Option.bind_some]
  by_cases h : c_codeOk l = true
  · rw [if_pos h, if_pos h]
    have := c_codeText_spec l hl l.length k 0 [] (by omega) (by omega) hk (by simp; omega)
    simpa using this
  · rw [if_neg h, if_neg h]

/-! ### instr_to -/
def c_toI (x : S100) : S98 := ⟨x.f0, x.f1⟩
theorem c_szInstr (l : List S100) (hl : l.length ≤ 9223372036854775807) : laws_szInstrS.f l 1048576 = some (if l.length > 1048576 then -1 else 1048576 - (l.length : Int)) := by
  unfold laws_szInstrS.f
  rw [c_wrap (by omega) (by omega)]
  by_cases h : l.length > 1048576
  · rw [if_pos (by omega), if_pos h]
  · rw [if_neg (by omega), if_neg h]
theorem c_toInstr_l (rest : List S100) : ∀ (k : Nat) (pre : List S100), pre.length + rest.length ≤ 9223372036854775807 → rest.length < k → laws_toInstrS.l0 k (pre ++ rest) (pre.map c_toI ++ List.replicate rest.length z98) (pre.length : Int) = some ((pre ++ rest).map c_toI) := by
  induction rest with
  | nil =>
    intro k pre hb hk
    obtain ⟨k, rfl⟩ := c_up (k := k) (by omega)
    rw [laws_toInstrS.l0, if_neg (by simp)]
    simp
  | cons a rest ih =>
    intro k pre hb hk
    rw [List.length_cons] at hb hk
    obtain ⟨k, rfl⟩ := c_up (k := k) (by omega)
    have hr : rd_T100 (pre ++ a :: rest) (pre.length : Int) = a := by
      unfold rd_T100
      simp
    have hset : (pre.map c_toI ++ List.replicate (a :: rest).length z98).set ((pre.length : Int)).toNat (⟨a.f0, a.f1⟩ : S98) = (pre ++ [a]).map c_toI ++ List.replicate rest.length z98 := by
      rw [Int.toNat_natCast, List.set_append_right _ _ (by simp), List.length_map, Nat.sub_self, List.length_cons, List.replicate_succ, List.set_cons_zero, List.map_append, List.append_assoc]
      rfl
    have hw := Aside0.mk (c_inc' (i := pre.length) (n := pre.length + 1) (by omega) (by omega))
    have := ih k (pre ++ [a]) (by rw [List.length_append, List.length_singleton]; omega) (by omega)
    rw [List.length_append, List.length_singleton, List.append_assoc] at this
    rw [laws_toInstrS.l0, if_pos (by rw [List.length_append, List.length_cons]; omega), if_pos (by omega), hr, laws_toInstr.f]
    simp only [Option.bind_some]
    rw [if_pos (by rw [List.length_append, List.length_map, List.length_replicate, List.length_cons]; omega), hset, hw.out]
    exact this
theorem c_toInstrS (l : List S100) (hl : l.length ≤ 1048576) (k : Nat) (hk : l.length < k) : laws_toInstrS.f k l = some (l.map c_toI) := by
  unfold laws_toInstrS.f
  rw [if_pos (by omega), if_pos (by omega), Int.toNat_natCast]
  exact c_toInstr_l l k [] (by simp; omega) hk

/-! ### instr_eq -/
theorem c_eqInstr_l (l : List S98) (hl : l.length ≤ 9223372036854775807) (d : Nat) : ∀ (k i : Nat), l.length - i = d → i ≤ l.length → d < k → laws_eqInstrS.l0 k l l i = some true := by
  induction d with
  | zero =>
    intro k i hd hi hk
    obtain ⟨k, rfl⟩ := c_up (k := k) (by omega)
    rw [laws_eqInstrS.l0, if_neg (by omega)]
  | succ d ih =>
    intro k i hd hi hk
    obtain ⟨k, rfl⟩ := c_up (k := k) (by omega)
    rw [laws_eqInstrS.l0, if_pos (by omega), if_pos (by omega), if_pos (by omega), laws_eqInstr.f, if_pos rfl, if_pos rfl, c_inc' (n := l.length) (by omega) hl]
    simp only [Option.bind_some, if_true]
    exact ih k (i + 1) (by omega) (by omega) (by omega)
theorem c_eqInstrS (l : List S98) (hl : l.length ≤ 9223372036854775807) (k : Nat) (hk : l.length < k) : laws_eqInstrS.f k l l = some true := by
  unfold laws_eqInstrS.f
  rw [if_pos rfl]
  exact c_eqInstr_l l hl l.length k 0 (by omega) (by omega) hk

/-! ### the law -/
theorem FnExactCodeText (l : List S100) (hl : l.length ≤ 9223372036854775807) : ∃ k, laws_FnExactCodeText.f k l = some true := by
  refine ⟨l.length + 2, ?_⟩
  unfold laws_FnExactCodeText.f
  rw [c_szInstr l hl]
  simp only [Option.bind_some]
  by_cases h : l.length > 1048576
  · rw [if_pos h, if_pos (by omega)]
  · have hm : (l.map c_toI).length = l.length := List.length_map ..
    rw [if_neg h, if_neg (by omega), c_toInstrS l (by omega) _ (by omega)]
    simp only [Option.bind_some]
    rw [c_CodeText_spec _ (by omega) _ (by omega), c_CodeText_impl _ (by omega) _ (by omega)]
    simp only [Option.bind_some, if_true, bne_self_eq_false]
    rw [laws_FnExactCodeText.j0, if_neg (by decide), c_toInstrS l (by omega) _ (by omega)]
    simp only [Option.bind_some]
    rw [c_eqInstrS _ (by omega) _ (by omega)]
    simp

end Go.Proofs.Ytimeeohggjagfaa.Pure
