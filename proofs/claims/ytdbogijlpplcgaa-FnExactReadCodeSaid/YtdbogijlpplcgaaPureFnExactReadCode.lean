/- ReadCode of the program answers as the reference's ReadCode, in memory of its own, for every text (the law itself answers true of a text beyond 2^20 bytes). -/
import Derived.Test.YtdbogijlpplcgaaPFnExactReadCodex3
namespace Go.Proofs.Ytdbogijlpplcgaa.Pure
open Go.RowKit Go.Proofs.Ytdbogijlpplcgaa.PFnExactReadCode Go.Proofs.YtdbogijlpplcgaaW.PrintWords Go.Proofs.YtdbogijlpplcgaaW.PrintLast
set_option linter.unusedVariables false
set_option linter.unusedSimpArgs false

/-! ### base -/
theorem c_wrap {n : Int} (h0 : -9223372036854775808 ≤ n) (h1 : n ≤ 9223372036854775807) : wrap64 n = n := by unfold wrap64; omega
theorem c_wf {n : Int} (h : (Lit.int .i64 n).wf = true) : -9223372036854775808 ≤ n ∧ n ≤ 9223372036854775807 := by
  simpa [Lit.wf, IntKind.min, IntKind.max, IntKind.signed, IntKind.bits] using h
theorem c_wf32 {n : Int} (h : (Lit.int .u32 n).wf = true) : 0 ≤ n ∧ n ≤ 4294967295 := by
  simpa [Lit.wf, IntKind.min, IntKind.max, IntKind.signed, IntKind.bits] using h
theorem c_up {k : Nat} (h : 0 < k) : ∃ m, k = m + 1 := ⟨k - 1, by omega⟩

/-! ### lists -/
theorem c_inc' {i n : Nat} (h : i < n) (hn : n ≤ 9223372036854775807) : wrap64 ((i : Int) + 1) = ((i + 1 : Nat) : Int) := by rw [c_wrap (by omega) (by omega)]; omega

/-! ### within -/
def c_in (n l h : Int) : Bool := decide (l ≤ n) && decide (n ≤ h)
theorem c_in_iff {n l h : Int} : c_in n l h = true ↔ l ≤ n ∧ n ≤ h := by simp [c_in]
theorem c_in_no {n l h : Int} : ¬ c_in n l h = true ↔ n < l ∨ h < n := by rw [c_in_iff]; omega

/-! ### instr -/
theorem c_rdI {l : List S73} {i : Nat} (h : i < l.length) : rd_T73 l (i : Int) = l[i]'h := by
  unfold rd_T73
  simp [h]
def c_okI (x : S73) : Bool := c_in x.f0 0 255 && c_in x.f1 0 255
def c_codeOk (l : List S73) : Bool := l.all c_okI && decide (l.length ≤ 60)

/-! ### drop -/
theorem c_bt (s : ByteArray) (i : Nat) (h : i < s.size) : bt s (i : Int) = ((s[i]'h).toNat : Int) := by
  unfold bt
  simp [h]
theorem c_drop (s : ByteArray) (i : Nat) (h : i < s.size) : ∃ b : UInt8, bt s (i : Int) = (b.toNat : Int) ∧ s.data.toList.drop i = b :: s.data.toList.drop (i + 1) := by
  refine ⟨s[i]'h, c_bt s i h, ?_⟩
  rw [List.drop_eq_getElem_cons (by rw [data_length]; exact h)]
  rfl
theorem c_drop_end (s : ByteArray) (i : Nat) (h : s.size ≤ i) : s.data.toList.drop i = [] := List.drop_eq_nil_of_le (by rw [data_length]; exact h)

/-! ### bytes -/
theorem c_toList (s : ByteArray) : s.toList = s.data.toList := ByteArray.toList_eq s
theorem c_extract (s : ByteArray) (a b : Nat) : (s.extract a b).data.toList = (s.data.toList.take b).drop a := by
  simp [ByteArray.data_extract, Array.toList_extract, List.extract_eq_take_drop, List.drop_take]
theorem c_ext {s t : ByteArray} (h : s.data.toList = t.data.toList) : s = t := by
  cases s; cases t; congr; exact Array.toList_inj.1 h

/-! ### readcode -/
def c_code : List UInt8 → List S73
  | a :: b :: l => ⟨(a.toNat : Int), (b.toNat : Int)⟩ :: c_code l
  | _ => []
theorem c_code_len (n : Nat) : ∀ l : List UInt8, l.length ≤ n → (c_code l).length ≤ n := by
  induction n using Nat.strongRecOn with
  | ind n ih =>
    intro l hl
    match l with
    | [] => simp [c_code]
    | [_] => simp [c_code]
    | a :: b :: l =>
      rw [c_code, List.length_cons]
      rw [List.length_cons, List.length_cons] at hl
      have := ih (n - 2) (by omega) l (by omega)
      omega
theorem c_readCode_spec (s : ByteArray) (hs : s.size ≤ 120) (hev : s.size % 2 = 0) (d : Nat) : ∀ (k i : Nat) (acc : List S73), s.size - i = 2 * d → i ≤ s.size → d < k → acc.length + d < 8796093022208 → spec_ReadCode.l0 k s acc i = some (acc ++ c_code (s.data.toList.drop i), true) := by
  induction d with
  | zero =>
    intro k i acc hd hi hk hb
    obtain ⟨k, rfl⟩ := c_up (k := k) (by omega)
    rw [spec_ReadCode.l0, if_neg (by omega), c_drop_end s i (by omega)]
    simp [c_code]
  | succ d ih =>
    intro k i acc hd hi hk hb
    obtain ⟨k, rfl⟩ := c_up (k := k) (by omega)
    obtain ⟨a, ha, hl⟩ := c_drop s i (by omega)
    obtain ⟨b, hb', hl2⟩ := c_drop s (i + 1) (by omega)
    have ha8 := a.toNat_lt
    have hb8 := b.toNat_lt
    have := ih k (i + 2) (acc ++ [⟨(a.toNat : Int), (b.toNat : Int)⟩]) (by omega) (by omega) (by omega) (by rw [List.length_append, List.length_singleton]; omega)
    rw [List.append_assoc] at this
    have q1 : (i : Int) < (s.size : Int) := by omega
    have q2 : (0 : Int) ≤ (i : Int) := by omega
    have q3 : (0 : Int) ≤ ((i + 1 : Nat) : Int) := by omega
    have q4 : ((i + 1 : Nat) : Int) < (s.size : Int) := by omega
    have q5 : acc.length < 8796093022208 := by omega
    have w1 : Aside0 (wrap64 ((i : Int) + 1) = ((i + 1 : Nat) : Int)) := ⟨by rw [c_wrap (by omega) (by omega)]; omega⟩
    have w2 : Aside0 (wrap64 ((i : Int) + 2) = ((i + 2 : Nat) : Int)) := ⟨by rw [c_wrap (by omega) (by omega)]; omega⟩
    have w3 : Aside0 (wrap64 (a.toNat : Int) = (a.toNat : Int)) := ⟨c_wrap (by omega) (by omega)⟩
    have w4 : Aside0 (wrap64 (b.toNat : Int) = (b.toNat : Int)) := ⟨c_wrap (by omega) (by omega)⟩
    rw [spec_ReadCode.l0, if_pos q1, if_pos q2, w1.out, if_pos q3, if_pos q4, if_pos q5, ha, hb', w2.out, w3.out, w4.out, this, hl, hl2]
    rfl
theorem c_readCode_impl (s : ByteArray) (hs : s.size ≤ 120) (hev : s.size % 2 = 0) (d : Nat) : ∀ (k i : Nat) (acc : List S73), s.size - i = 2 * d → i ≤ s.size → d < k → acc.length + d < 8796093022208 → impl_ReadCode.l0 k s acc i = some (acc ++ c_code (s.data.toList.drop i), true) := by
  induction d with
  | zero =>
    intro k i acc hd hi hk hb
    obtain ⟨k, rfl⟩ := c_up (k := k) (by omega)
    rw [impl_ReadCode.l0, if_neg (by omega), c_drop_end s i (by omega)]
    simp [c_code]
  | succ d ih =>
    intro k i acc hd hi hk hb
    obtain ⟨k, rfl⟩ := c_up (k := k) (by omega)
    obtain ⟨a, ha, hl⟩ := c_drop s i (by omega)
    obtain ⟨b, hb', hl2⟩ := c_drop s (i + 1) (by omega)
    have ha8 := a.toNat_lt
    have hb8 := b.toNat_lt
    have := ih k (i + 2) (acc ++ [⟨(a.toNat : Int), (b.toNat : Int)⟩]) (by omega) (by omega) (by omega) (by rw [List.length_append, List.length_singleton]; omega)
    rw [List.append_assoc] at this
    have q1 : (i : Int) < (s.size : Int) := by omega
    have q2 : (0 : Int) ≤ (i : Int) := by omega
    have q3 : (0 : Int) ≤ ((i + 1 : Nat) : Int) := by omega
    have q4 : ((i + 1 : Nat) : Int) < (s.size : Int) := by omega
    have q5 : acc.length < 8796093022208 := by omega
    have w1 : Aside0 (wrap64 ((i : Int) + 1) = ((i + 1 : Nat) : Int)) := ⟨by rw [c_wrap (by omega) (by omega)]; omega⟩
    have w2 : Aside0 (wrap64 ((i : Int) + 2) = ((i + 2 : Nat) : Int)) := ⟨by rw [c_wrap (by omega) (by omega)]; omega⟩
    have w3 : Aside0 (wrap64 (a.toNat : Int) = (a.toNat : Int)) := ⟨c_wrap (by omega) (by omega)⟩
    have w4 : Aside0 (wrap64 (b.toNat : Int) = (b.toNat : Int)) := ⟨c_wrap (by omega) (by omega)⟩
    rw [impl_ReadCode.l0, if_pos q1, if_pos q2, w1.out, if_pos q3, if_pos q4, if_pos q5, ha, hb', w2.out, w3.out, w4.out, this, hl, hl2]
    rfl
def c_readCode (s : ByteArray) : List S73 × Bool := if s.size % 2 = 0 ∧ s.size ≤ 120 then (c_code s.data.toList, true) else ([], false)
theorem c_ReadCode_spec (s : ByteArray) (k : Nat) (hk : 122 ≤ k) : spec_ReadCode.f k s = some (c_readCode s) := by
  obtain ⟨k, rfl⟩ := c_up (k := k) (by omega)
  unfold spec_ReadCode.f c_readCode
  simp only [Option.bind_some]
  by_cases h1 : s.size % 2 = 0
  · rw [if_pos (by omega)]
    by_cases h2 : s.size > 120
    · rw [spec_ReadCode.j0, if_pos (by simp; omega), if_neg (by omega)]
    · rw [spec_ReadCode.j0, if_neg (by simp; omega), if_pos (by omega)]
      have := c_readCode_spec s (by omega) h1 (s.size / 2) k 0 [] (by omega) (by omega) (by omega) (by simp; omega)
      simpa using this
  · rw [if_neg (by omega), spec_ReadCode.j0, if_pos rfl, if_neg (by omega)]
theorem c_ReadCode_impl (s : ByteArray) (k : Nat) (hk : 122 ≤ k) : impl_ReadCode.f k s = some (c_readCode s) := by
  obtain ⟨k, rfl⟩ := c_up (k := k) (by omega)
  unfold impl_ReadCode.f c_readCode
  by_cases h1 : s.size % 2 = 0
  · rw [if_pos (by omega)]
    by_cases h2 : s.size > 120
    · rw [impl_ReadCode.j0, if_pos (by simp; omega), if_neg (by omega)]
    · rw [impl_ReadCode.j0, if_neg (by simp; omega), if_pos (by omega)]
      have := c_readCode_impl s (by omega) h1 (s.size / 2) k 0 [] (by omega) (by omega) (by omega) (by simp; omega)
      simpa using this
  · rw [if_neg (by omega), impl_ReadCode.j0, if_pos rfl, if_neg (by omega)]
theorem c_readCode_len (s : ByteArray) : (c_readCode s).1.length ≤ 120 := by
  unfold c_readCode
  split
  · exact c_code_len 120 _ (by rw [data_length]; omega)
  · simp

/-! ### instr_eq -/
theorem c_eqInstr_l (l : List S73) (hl : l.length ≤ 9223372036854775807) (d : Nat) : ∀ (k i : Nat), l.length - i = d → i ≤ l.length → d < k → laws_eqInstrS.l0 k l l i = some true := by
  induction d with
  | zero =>
    intro k i hd hi hk
    obtain ⟨k, rfl⟩ := c_up (k := k) (by omega)
    rw [laws_eqInstrS.l0, if_neg (by omega)]
  | succ d ih =>
    intro k i hd hi hk
    obtain ⟨k, rfl⟩ := c_up (k := k) (by omega)
    rw [laws_eqInstrS.l0, if_pos (by omega), if_pos (by omega), if_pos (by omega), laws_eqInstr.f, if_pos rfl, if_pos rfl, c_inc' (n := l.length) (by omega) hl]
    simp only [Option.bind_some, if_true]
    exact ih k (i + 1) (by omega) (by omega) (by omega)
theorem c_eqInstrS (l : List S73) (hl : l.length ≤ 9223372036854775807) (k : Nat) (hk : l.length < k) : laws_eqInstrS.f k l l = some true := by
  unfold laws_eqInstrS.f
  rw [if_pos rfl]
  exact c_eqInstr_l l hl l.length k 0 (by omega) (by omega) hk

/-! ### markinstr -/
def c_seqI (m : Int) (n : Nat) : List S73 := (List.range n).map fun (i : Nat) => ⟨m + 2 * (i : Int), m + 2 * (i : Int) + 1⟩
theorem c_seqI_len (m : Int) (n : Nat) : (c_seqI m n).length = n := by simp [c_seqI]
theorem c_seqI_succ (m : Int) (n : Nat) : c_seqI m (n + 1) = c_seqI m n ++ [⟨m + 2 * (n : Int), m + 2 * (n : Int) + 1⟩] := by simp [c_seqI, List.range_succ]
theorem c_setI (pre : List S73) (a b : S73) (l : List S73) (n : Nat) (h : pre.length = n) : (pre ++ a :: l).set ((n : Int)).toNat b = pre ++ b :: l := by
  subst h
  rw [Int.toNat_natCast, List.set_append_right _ _ (Nat.le_refl _), Nat.sub_self, List.set_cons_zero]
theorem c_rdI_app (pre : List S73) (a : S73) (l : List S73) (n : Nat) (h : pre.length = n) : rd_T73 (pre ++ a :: l) (n : Int) = a := by
  subst h
  unfold rd_T73
  simp
theorem c_markI_l (m : Int) (h0 : 0 ≤ m) (l : List S73) : ∀ (k i : Nat), m + 2 * (i : Int) + 2 * l.length ≤ 9223372036854775807 → l.length < k → laws_markInstrS.l0 k (c_seqI m i ++ l) (m + 2 * (i : Int)) i = some (m + 2 * (i : Int) + 2 * l.length, c_seqI m (i + l.length)) := by
  induction l with
  | nil =>
    intro k i hb hk
    obtain ⟨k, rfl⟩ := c_up (k := k) (by omega)
    rw [List.append_nil, laws_markInstrS.l0, if_neg (by rw [c_seqI_len]; omega)]
    simp
  | cons a l ih =>
    intro k i hb hk
    rw [List.length_cons] at hb hk
    obtain ⟨k, rfl⟩ := c_up (k := k) (by omega)
    have hlen : (c_seqI m i ++ a :: l).length = i + (l.length + 1) := by rw [List.length_append, c_seqI_len, List.length_cons]
    have := ih k (i + 1) (by omega) (by omega)
    rw [c_seqI_succ, List.append_assoc] at this
    have e1 : m + 2 * (i : Int) + 1 + 1 = m + 2 * ((i + 1 : Nat) : Int) := by omega
    have q1 : (i : Int) < ((c_seqI m i ++ a :: l).length : Int) := by rw [hlen]; omega
    have q2 : (0 : Int) ≤ (i : Int) := by omega
    have w1 := Aside0.mk (c_inc' (i := i) (n := i + 1) (by omega) (by omega))
    have w2 : Aside0 (wrap64 (m + 2 * (i : Int) + 1) = m + 2 * (i : Int) + 1) := ⟨c_wrap (by omega) (by omega)⟩
    have w3 : Aside0 (wrap64 (m + 2 * (i : Int) + 1 + 1) = m + 2 * ((i + 1 : Nat) : Int)) := ⟨by rw [c_wrap (by omega) (by omega)]; omega⟩
    rw [laws_markInstrS.l0, if_pos q1, if_pos q2, c_setI _ _ _ _ _ (c_seqI_len m i), c_rdI_app _ _ _ _ (c_seqI_len m i)]
    simp only [Option.bind_some]
    rw [c_setI _ _ _ _ _ (c_seqI_len m i), c_rdI_app _ _ _ _ (c_seqI_len m i), w1.out, w2.out, w3.out]
    refine this.trans ?_
    rw [List.length_cons, Nat.add_assoc, Nat.add_comm 1]
    congr 2
    omega
theorem c_markI (l : List S73) (m : Int) (h0 : 0 ≤ m) (hb : m + 2 * l.length ≤ 9223372036854775807) (k : Nat) (hk : l.length < k) : laws_markInstrS.f k l m = some (m + 2 * l.length, c_seqI m l.length) := by
  have := c_markI_l m h0 l k 0 (by omega) hk
  unfold laws_markInstrS.f
  simpa [c_seqI] using this
theorem c_heldI_l (m : Int) (h0 : 0 ≤ m) (n : Nat) (hb : m + 2 * n ≤ 9223372036854775807) (d : Nat) : ∀ (k i : Nat), n - i = d → i ≤ n → d < k → laws_heldInstrS.l0 k (c_seqI m n) (m + 2 * (i : Int)) i = some (m + 2 * (n : Int)) := by
  induction d with
  | zero =>
    intro k i hd hi hk
    obtain ⟨k, rfl⟩ := c_up (k := k) (by omega)
    rw [laws_heldInstrS.l0, if_neg (by rw [c_seqI_len]; omega)]
    have : i = n := by omega
    rw [this]
  | succ d ih =>
    intro k i hd hi hk
    obtain ⟨k, rfl⟩ := c_up (k := k) (by omega)
    have hr : rd_T73 (c_seqI m n) (i : Int) = ⟨m + 2 * (i : Int), m + 2 * (i : Int) + 1⟩ := by
      rw [c_rdI (by rw [c_seqI_len]; omega)]
      simp [c_seqI]
    have := ih k (i + 1) (by omega) (by omega) (by omega)
    have w1 := Aside0.mk (c_inc' (i := i) (n := n) (by omega) (by omega))
    have w2 : Aside0 (wrap64 (m + 2 * (i : Int) + 1) = m + 2 * (i : Int) + 1) := ⟨c_wrap (by omega) (by omega)⟩
    have w3 : Aside0 (wrap64 (m + 2 * (i : Int) + 1 + 1) = m + 2 * ((i + 1 : Nat) : Int)) := ⟨by rw [c_wrap (by omega) (by omega)]; omega⟩
    have q1 : (i : Int) < ((c_seqI m n).length : Int) := by rw [c_seqI_len]; omega
    have q2 : (0 : Int) ≤ (i : Int) := by omega
    rw [laws_heldInstrS.l0, if_pos q1, if_pos q2, hr, if_pos rfl, w2.out, if_pos rfl, w3.out, w1.out, this]
theorem c_heldI (m : Int) (h0 : 0 ≤ m) (n : Nat) (hb : m + 2 * n ≤ 9223372036854775807) (k : Nat) (hk : n < k) : laws_heldInstrS.f k (c_seqI m n) m = some (m + 2 * (n : Int)) := by
  have := c_heldI_l m h0 n hb n k 0 (by omega) (by omega) hk
  unfold laws_heldInstrS.f
  simpa using this

/-! ### the law -/
theorem FnExactReadCode : laws_FnExactReadCode.Pure := by
  intro s _
  refine ⟨124, ?_⟩
  unfold laws_FnExactReadCode.f
  by_cases h : (s.size : Int) > 1048576
  · rw [if_pos h]
  · have hl := c_readCode_len s
    rw [if_neg h, c_ReadCode_spec s 124 (by omega), c_ReadCode_impl s 124 (by omega)]
    simp only [Option.bind_some]
    rw [c_eqInstrS _ (by omega) _ (by omega)]
    simp only [Option.bind_some, if_true]
    rw [bne_self_eq_false, laws_FnExactReadCode.j0, if_neg (by decide), c_markI _ 1 (by omega) (by omega) _ (by omega)]
    simp only [Option.bind_some]
    rw [c_heldI 1 (by omega) _ (by omega) _ (by omega)]
    simp only [Option.bind_some]
    rw [if_neg (by omega), if_true, c_ReadCode_impl s 123 (by omega)]
    simp only [Option.bind_some]
    rw [c_eqInstrS _ (by omega) _ (by omega)]
    simp only [Option.bind_some, if_true]
    rw [bne_self_eq_false, laws_FnExactReadCode.j1, if_neg (by decide), c_heldI 1 (by omega) _ (by omega) _ (by omega)]
    simp only [Option.bind_some]
    rw [if_neg (by omega), if_true]

end Go.Proofs.Ytdbogijlpplcgaa.Pure
