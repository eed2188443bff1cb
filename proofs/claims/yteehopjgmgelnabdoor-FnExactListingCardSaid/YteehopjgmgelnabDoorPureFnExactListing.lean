/- Listing of the program answers as the reference's Listing, for every list of instructions (the law itself answers true of one of more than 2^20). -/
import Derived.Test.YteehopjgmgelnabDoorMFnExactListingx0
import Derived.Test.YteehopjgmgelnabDoorMFnExactListingx1
import Derived.Test.YteehopjgmgelnabDoorMFnExactListingx2
import Derived.Test.YteehopjgmgelnabDoorMFnExactListingx3
import Derived.Test.YteehopjgmgelnabDoorMFnExactListingx4
namespace Go.Proofs.YteehopjgmgelnabDoor.Pure
open Go.RowKit Go.Proofs.YteehopjgmgelnabDoor.PFnExactListing Go.Proofs.YteehopjgmgelnabDoorW.PrintWords Go.Proofs.YteehopjgmgelnabDoorW.PrintLast
set_option linter.unusedVariables false
set_option linter.unusedSimpArgs false

/-! ### base -/
theorem c_wrap {n : Int} (h0 : -9223372036854775808 ≤ n) (h1 : n ≤ 9223372036854775807) : wrap64 n = n := by unfold wrap64; omega
theorem c_wf {n : Int} (h : (Lit.int .i64 n).wf = true) : -9223372036854775808 ≤ n ∧ n ≤ 9223372036854775807 := by
  simpa [Lit.wf, IntKind.min, IntKind.max, IntKind.signed, IntKind.bits] using h
theorem c_wf32 {n : Int} (h : (Lit.int .u32 n).wf = true) : 0 ≤ n ∧ n ≤ 4294967295 := by
  simpa [Lit.wf, IntKind.min, IntKind.max, IntKind.signed, IntKind.bits] using h
theorem c_up {k : Nat} (h : 0 < k) : ∃ m, k = m + 1 := ⟨k - 1, by omega⟩

/-! ### decimal -/
def c_decFin (b : Bool) (l : List UInt8) : ByteArray := if b = true then ⟨((45 : UInt8) :: l).toArray⟩ else ⟨l.toArray⟩
theorem c_decApp (a b : List UInt8) : (⟨a.toArray⟩ ++ ⟨b.toArray⟩ : ByteArray) = ⟨(a ++ b).toArray⟩ := by
  apply ByteArray.ext
  simp
theorem c_decSize (l : List UInt8) : (⟨l.toArray⟩ : ByteArray).size = l.length := by simp [ByteArray.size]
theorem c_decZero (b : Bool) (l : List UInt8) (hl : l.length ≤ 1000) : spec_Decimal.l0 1 0 b ⟨l.toArray⟩ = some (c_decFin b l) := by
  unfold spec_Decimal.l0 c_decFin
  rw [if_pos rfl]
  cases b
  · simp
  · rw [if_pos rfl, if_pos rfl, c_decSize, if_pos (by omega)]
    exact congrArg some (c_decApp [45] l)
theorem c_decStep (k : Nat) (x : Int) (b : Bool) (l : List UInt8) (hx : x ≠ 0) (h0 : -9223372036854775808 ≤ x) (h1 : x ≤ 9223372036854775807) (hl : l.length ≤ 1000) :
    spec_Decimal.l0 (k + 1) x b ⟨l.toArray⟩ = spec_Decimal.l0 k (Int.tdiv x 10) b ⟨(UInt8.ofNat (48 + x.natAbs % 10) :: l).toArray⟩ := by
  have hw : wrap64 (Int.tdiv x 10) = Int.tdiv x 10 := by
    have hq : (Int.tdiv x 10).natAbs = x.natAbs / 10 := by rw [Int.natAbs_tdiv]; rfl
    unfold wrap64; omega
  have key : ∀ d : Int, d = ((x.natAbs % 10 : Nat) : Int) → (spec_l01Figure.f d).bind (fun t105 => ((some (([t105] : List Int) : List Int)).bind fun y106 => (if (strOfNums y106).size + (⟨l.toArray⟩ : ByteArray).size ≤ 9223372036854775807 then (spec_Decimal.l0 k (wrap64 (Int.tdiv x 10)) b ((strOfNums y106) ++ ⟨l.toArray⟩)) else (none)))) = spec_Decimal.l0 k (Int.tdiv x 10) b ⟨(UInt8.ofNat (48 + x.natAbs % 10) :: l).toArray⟩ := by
    intro d hd
    have hd10 : d < 10 := by omega
    have hd0 : 0 ≤ d := by omega
    unfold spec_l01Figure.f
    rw [if_pos hd10]
    have hn : (wrap64 (48 + d)) % 256 = ((48 + x.natAbs % 10 : Nat) : Int) := by
      have : wrap64 (48 + d) = 48 + d := by unfold wrap64; omega
      rw [this]; omega
    rw [hn, Option.bind_some, Option.bind_some, strOfNums_size, c_decSize, if_pos (by simp; omega), hw]
    exact congrArg _ (c_decApp [UInt8.ofNat (48 + x.natAbs % 10)] l)
  conv => lhs; unfold spec_Decimal.l0
  rw [if_neg hx]
  split
  · rename_i hn
    refine key _ ?_
    have hq : (Int.tmod x 10).natAbs = x.natAbs % 10 := by rw [Int.natAbs_tmod]; rfl
    unfold wrap64; omega
  · rename_i hn
    refine key _ ?_
    have hq : (Int.tmod x 10).natAbs = x.natAbs % 10 := by rw [Int.natAbs_tmod]; rfl
    omega
theorem c_decMain (u : Nat) : ∀ (x : Int) (b : Bool) (l : List UInt8), x.natAbs = u → u ≠ 0 → -9223372036854775808 ≤ x → x ≤ 9223372036854775807 → l.length + Lib.nDigits u ≤ 1000 → spec_Decimal.l0 (Lib.nDigits u + 1) x b ⟨l.toArray⟩ = some (c_decFin b (Lib.decDigits u ++ l)) := by
  induction u using Nat.strongRecOn with
  | _ u ih =>
    intro x b l hu h0 hm hM hl
    have hp := Lib.nDigits_pos u
    have hq : (Int.tdiv x 10).natAbs = x.natAbs / 10 := by rw [Int.natAbs_tdiv]; rfl
    by_cases h : u < 10
    · have hz : Int.tdiv x 10 = 0 := by omega
      rw [Lib.nDigits_small h, c_decStep 1 x b l (by omega) hm hM (by omega), hz, c_decZero b _ (by simp; omega)]
      rw [Lib.decDigits, dif_pos h, show x.natAbs % 10 = u by omega]
      rfl
    · have hk := ih (u / 10) (by omega) (Int.tdiv x 10) b (UInt8.ofNat (48 + x.natAbs % 10) :: l) (by omega) (by omega) (by omega) (by omega) (by rw [Lib.nDigits_big h] at hl; simp; omega)
      rw [Lib.nDigits_big h, c_decStep _ x b l (by omega) hm hM (by omega), hk, show x.natAbs = u from hu]
      conv => rhs; rw [Lib.decDigits, dif_neg h]
      simp
theorem c_decimal0 (n : Int) (h0 : -9223372036854775808 ≤ n) (h1 : n ≤ 9223372036854775807) : ∃ k, k ≤ 21 ∧ spec_Decimal.f k n = some ⟨(Lib.itoa n).toArray⟩ := by
  unfold spec_Decimal.f
  by_cases hz : n = 0
  · subst hz
    refine ⟨0, by omega, ?_⟩
    rw [if_pos rfl, show Lib.itoa 0 = Lib.decDigits 0 from rfl, Lib.decDigits, dif_pos (by omega)]
    rfl
  · have hd := Lib.nDigits_le20 n.natAbs (by omega)
    have hk := c_decMain n.natAbs n (decide (n < 0)) [] rfl (by omega) h0 h1 (by simp; omega)
    refine ⟨Lib.nDigits n.natAbs + 1, by omega, ?_⟩
    rw [if_neg hz]
    refine hk.trans ?_
    unfold c_decFin Lib.itoa
    rw [List.append_nil]
    by_cases hn : n < 0
    · rw [if_pos (decide_eq_true hn), if_pos hn]
    · rw [if_neg (by simp [hn]), if_neg hn, show n.toNat = n.natAbs by omega]
theorem c_decimal (n : Int) (h0 : -9223372036854775808 ≤ n) (h1 : n ≤ 9223372036854775807) (k : Nat) (hk : 21 ≤ k) : spec_Decimal.f k n = some ⟨(Lib.itoa n).toArray⟩ := by
  obtain ⟨k0, h, e⟩ := c_decimal0 n h0 h1
  induction k with
  | zero => omega
  | succ m ih =>
    by_cases c : k0 = m + 1
    · rw [← c]; exact e
    · by_cases c2 : 21 ≤ m
      · exact spec_Decimal.mono _ _ _ (ih c2)
      · have hm : ∀ j, k0 ≤ j → spec_Decimal.f j n = some ⟨(Lib.itoa n).toArray⟩ := by
          intro j hj
          induction j with
          | zero => rw [show k0 = 0 by omega] at e; exact e
          | succ q iq =>
            by_cases c3 : k0 = q + 1
            · rw [← c3]; exact e
            · exact spec_Decimal.mono _ _ _ (iq (by omega))
        exact hm _ (by omega)

/-! ### lists -/
theorem c_inc' {i n : Nat} (h : i < n) (hn : n ≤ 9223372036854775807) : wrap64 ((i : Int) + 1) = ((i + 1 : Nat) : Int) := by rw [c_wrap (by omega) (by omega)]; omega

/-! ### within -/
def c_in (n l h : Int) : Bool := decide (l ≤ n) && decide (n ≤ h)
theorem c_in_iff {n l h : Int} : c_in n l h = true ↔ l ≤ n ∧ n ≤ h := by simp [c_in]
theorem c_in_no {n l h : Int} : ¬ c_in n l h = true ↔ n < l ∨ h < n := by rw [c_in_iff]; omega

/-! ### instr -/
theorem c_rdI {l : List S36} {i : Nat} (h : i < l.length) : rd_T36 l (i : Int) = l[i]'h := by
  unfold rd_T36
  simp [h]
def c_okI (x : S36) : Bool := c_in x.f0 0 255 && c_in x.f1 0 255
def c_codeOk (l : List S36) : Bool := l.all c_okI && decide (l.length ≤ 60)

/-! ### within_s -/
theorem c_l01In (n l h : Int) : spec_l01In.f n l h = some (c_in n l h) := by
  unfold spec_l01In.f c_in
  by_cases h0 : n ≥ l
  · rw [if_pos h0]; simp [h0]
  · rw [if_neg h0]; simp; omega

/-! ### within_i -/
theorem c_within (n l h : Int) : impl_within.f n l h = some (c_in n l h) := by
  unfold impl_within.f c_in
  by_cases h0 : n ≥ l
  · rw [if_pos h0]; simp [h0]
  · rw [if_neg h0]; simp; omega

/-! ### codeok -/
theorem c_codeOk_spec (l : List S36) (hl : l.length ≤ 1048576) (d : Nat) : ∀ (k i : Nat), l.length - i = d → i ≤ l.length → d < k → spec_CodeOk.l0 k l i = some ((l.drop i).all c_okI && decide (l.length ≤ 60)) := by
  induction d with
  | zero =>
    intro k i hd hi hk
    obtain ⟨k, rfl⟩ := c_up (k := k) (by omega)
    rw [spec_CodeOk.l0, if_neg (by omega), List.drop_eq_nil_of_le (by omega)]
    simp
    omega
  | succ d ih =>
    intro k i hd hi hk
    obtain ⟨k, rfl⟩ := c_up (k := k) (by omega)
    have hd' : l.drop i = l[i]'(by omega) :: l.drop (i + 1) := List.drop_eq_getElem_cons (by omega)
    rw [spec_CodeOk.l0, if_pos (by omega), if_pos (by omega), c_rdI (by omega), c_l01In, c_l01In, c_inc' (n := l.length) (by omega) (by omega), ih k (i + 1) (by omega) (by omega) (by omega), hd', List.all_cons]
    simp only [Option.bind_some, c_okI]
    cases c_in (l[i]'(by omega)).f0 0 255 <;> cases c_in (l[i]'(by omega)).f1 0 255 <;> simp
theorem c_codeOk_impl (l : List S36) (hl : l.length ≤ 1048576) (d : Nat) : ∀ (k i : Nat), l.length - i = d → i ≤ l.length → d < k → impl_CodeOk.l0 k l l (l.length : Int) i = some ((l.drop i).all c_okI && decide (l.length ≤ 60)) := by
  induction d with
  | zero =>
    intro k i hd hi hk
    obtain ⟨k, rfl⟩ := c_up (k := k) (by omega)
    rw [impl_CodeOk.l0, if_neg (by omega), List.drop_eq_nil_of_le (by omega)]
    simp
    omega
  | succ d ih =>
    intro k i hd hi hk
    obtain ⟨k, rfl⟩ := c_up (k := k) (by omega)
    have hd' : l.drop i = l[i]'(by omega) :: l.drop (i + 1) := List.drop_eq_getElem_cons (by omega)
    rw [impl_CodeOk.l0, if_pos (by omega), if_pos (by omega), if_pos (by omega), c_rdI (by omega), c_within, c_within, c_inc' (n := l.length) (by omega) (by omega), ih k (i + 1) (by omega) (by omega) (by omega), hd', List.all_cons]
    simp only [Option.bind_some, c_okI]
    cases c_in (l[i]'(by omega)).f0 0 255 <;> cases c_in (l[i]'(by omega)).f1 0 255 <;> simp
theorem c_CodeOk_spec (l : List S36) (hl : l.length ≤ 1048576) (k : Nat) (hk : l.length < k) : spec_CodeOk.f k l = some (c_codeOk l) := by
  have := c_codeOk_spec l hl l.length k 0 (by omega) (by omega) hk
  simpa [spec_CodeOk.f, c_codeOk] using this
theorem c_CodeOk_impl (l : List S36) (hl : l.length ≤ 1048576) (k : Nat) (hk : l.length < k) : impl_CodeOk.f k l = some (c_codeOk l) := by
  have := c_codeOk_impl l hl l.length k 0 (by omega) (by omega) hk
  simpa [impl_CodeOk.f, c_codeOk] using this

/-! ### nameof -/
theorem c_names : spec_l05Names.f = impl_opNames.f := rfl
theorem c_names_some : ∃ l, impl_opNames.f = some l ∧ l.length = 18 := ⟨_, rfl, rfl⟩
theorem c_nameOf_same (a : Int) : spec_NameOf.f a = impl_NameOf.f a := by
  simp only [spec_NameOf.f, impl_NameOf.f, impl_hasOp.f, c_l01In, c_within, c_names, Option.bind_some]
theorem c_nameOf_some (a : Int) : ∃ r, impl_NameOf.f a = some r := by
  obtain ⟨l, hl, hn⟩ := c_names_some
  simp only [impl_NameOf.f, impl_hasOp.f, c_within, Option.bind_some, hl]
  by_cases h : c_in a 0 17 = true
  · rw [if_pos h]
    rw [c_in_iff] at h
    rw [if_pos h.1, if_pos (by omega)]
    exact ⟨_, rfl⟩
  · rw [if_neg h]
    exact ⟨_, rfl⟩

/-! ### drop -/
theorem c_bt (s : ByteArray) (i : Nat) (h : i < s.size) : bt s (i : Int) = ((s[i]'h).toNat : Int) := by
  unfold bt
  simp [h]
theorem c_drop (s : ByteArray) (i : Nat) (h : i < s.size) : ∃ b : UInt8, bt s (i : Int) = (b.toNat : Int) ∧ s.data.toList.drop i = b :: s.data.toList.drop (i + 1) := by
  refine ⟨s[i]'h, c_bt s i h, ?_⟩
  rw [List.drop_eq_getElem_cons (by rw [data_length]; exact h)]
  rfl
theorem c_drop_end (s : ByteArray) (i : Nat) (h : s.size ≤ i) : s.data.toList.drop i = [] := List.drop_eq_nil_of_le (by rw [data_length]; exact h)

/-! ### bytes -/
theorem c_toList (s : ByteArray) : s.toList = s.data.toList := ByteArray.toList_eq s
theorem c_extract (s : ByteArray) (a b : Nat) : (s.extract a b).data.toList = (s.data.toList.take b).drop a := by
  simp [ByteArray.data_extract, Array.toList_extract, List.extract_eq_take_drop, List.drop_take]
theorem c_ext {s t : ByteArray} (h : s.data.toList = t.data.toList) : s = t := by
  cases s; cases t; congr; exact Array.toList_inj.1 h

/-! ### names -/
def c_namesL : List ByteArray := (impl_opNames.f).getD []
theorem c_namesL_eq : impl_opNames.f = some c_namesL := rfl
theorem c_namesL_len : c_namesL.length = 18 := rfl
def c_nm : List (List UInt8) := c_namesL.map fun x => x.data.toList
theorem c_nm_len : c_nm.length = 18 := rfl
theorem c_nm_inj : ∀ i j : Fin 18, (c_nm.getD i.val [] == c_nm.getD j.val []) = (i.val == j.val) := by decide +kernel
theorem c_nm_ne : ∀ i : Fin 18, c_nm.getD i.val [] ≠ [] := by decide +kernel
def c_name (a : Int) : ByteArray := if c_in a 0 17 = true then rdOf ByteArray.empty c_namesL a else (⟨#[]⟩ : ByteArray)
theorem c_nameOf (a : Int) : impl_NameOf.f a = some (c_name a) := by
  unfold c_name
  simp only [impl_NameOf.f, impl_hasOp.f, c_within, Option.bind_some, c_namesL_eq]
  by_cases h : c_in a 0 17 = true
  · have h' := c_in_iff.1 h
    rw [if_pos h, if_pos h, if_pos h'.1, if_pos (by rw [c_namesL_len]; omega)]
  · rw [if_neg h, if_neg h]
theorem c_name_val {a : Nat} (h : a < 18) : (c_name (a : Int)).toList = c_nm.getD a [] := by
  unfold c_name
  rw [if_pos (c_in_iff.2 ⟨by omega, by omega⟩), c_toList]
  unfold rdOf c_nm
  rw [Int.toNat_natCast, List.getD_eq_getElem?_getD, List.getD_eq_getElem?_getD, List.getElem?_map, List.getElem?_eq_getElem (by rw [c_namesL_len]; omega)]
  rfl

/-! ### listing -/
def c_line (x : S36) : ByteArray := ((c_name x.f0 ++ (⟨#[32]⟩ : ByteArray)) ++ (⟨(Lib.itoa x.f1).toArray⟩ : ByteArray)) ++ (⟨#[10]⟩ : ByteArray)
def c_lst : ByteArray → List S36 → ByteArray × Bool
  | acc, [] => (acc, true)
  | acc, x :: r => if c_in x.f0 0 17 = true then c_lst (acc ++ c_line x) r else ((⟨#[]⟩ : ByteArray), false)
def c_listing (l : List S36) : ByteArray × Bool := if c_codeOk l = true then c_lst (⟨#[]⟩ : ByteArray) l else ((⟨#[]⟩ : ByteArray), false)
theorem c_name_sizes : ∀ i : Fin 18, (rdOf ByteArray.empty c_namesL (i.val : Int)).size ≤ 16 := by decide +kernel
theorem c_name_size (a : Int) : (c_name a).size ≤ 16 := by
  unfold c_name
  by_cases h : c_in a 0 17 = true
  · rw [if_pos h]
    have h' := c_in_iff.1 h
    have := c_name_sizes ⟨a.toNat, by omega⟩
    rw [show ((a.toNat : Nat) : Int) = a by omega] at this
    exact this
  · rw [if_neg h]
    exact Nat.zero_le _
theorem c_dec_size (a : Int) (h0 : 0 ≤ a) (h1 : a ≤ 255) : (⟨(Lib.itoa a).toArray⟩ : ByteArray).size ≤ 21 := by
  rw [c_decSize]
  exact Lib.itoa_length_le a (by omega) (by omega)
theorem c_line_size (x : S36) (h0 : 0 ≤ x.f1) (h1 : x.f1 ≤ 255) : (c_line x).size ≤ 39 := by
  have a := c_name_size x.f0
  have b := c_dec_size x.f1 h0 h1
  unfold c_line
  rw [ByteArray.size_append, ByteArray.size_append, ByteArray.size_append]
  show (c_name x.f0).size + 1 + _ + 1 ≤ 39
  omega
theorem c_hasOp (a : Int) : impl_hasOp.f a = some (c_in a 0 17) := by
  unfold impl_hasOp.f
  rw [c_within]
  rfl
theorem c_name_nil (a : Int) : ((c_name a).toList = ([] : List UInt8)) ↔ ¬ c_in a 0 17 = true := by
  by_cases h : c_in a 0 17 = true
  · have h' := c_in_iff.1 h
    constructor
    · intro e
      have hv := c_name_val (a := a.toNat) (by omega)
      rw [show ((a.toNat : Nat) : Int) = a by omega, e] at hv
      exact absurd hv.symm (c_nm_ne ⟨a.toNat, by omega⟩)
    · intro e
      exact absurd h e
  · constructor
    · intro _
      exact h
    · intro _
      unfold c_name
      rw [if_neg h, c_toList]
theorem c_list_impl (l : List S36) (hl : l.length ≤ 60) (hok : ∀ x ∈ l, 0 ≤ x.f1 ∧ x.f1 ≤ 255) (d : Nat) : ∀ (k i : Nat) (acc : ByteArray), l.length - i = d → i ≤ l.length → d + 21 < k → acc.size ≤ 39 * i → impl_Listing.l0 k acc l (l.length : Int) i = some (c_lst acc (l.drop i)) := by
  induction d with
  | zero =>
    intro k i acc hd hi hk ha
    obtain ⟨k, rfl⟩ := c_up (k := k) (by omega)
    rw [impl_Listing.l0, if_neg (by omega), List.drop_eq_nil_of_le (by omega)]
    rfl
  | succ d ih =>
    intro k i acc hd hi hk ha
    obtain ⟨k, rfl⟩ := c_up (k := k) (by omega)
    have hx := hok _ (List.getElem_mem (show i < l.length by omega))
    have hd' : l.drop i = l[i]'(by omega) :: l.drop (i + 1) := List.drop_eq_getElem_cons (by omega)
    rw [impl_Listing.l0, if_pos (by omega), if_pos (by omega), if_pos (by omega), c_rdI (by omega), c_hasOp, hd', c_lst]
    generalize l[i]'(by omega) = x at hx
    have hn := c_name_size x.f0
    have hb := c_dec_size x.f1 hx.1 hx.2
    have hls := c_line_size x hx.1 hx.2
    simp only [Option.bind_some]
    by_cases hc : c_in x.f0 0 17 = true
    · rw [if_pos hc, if_pos hc, c_nameOf]
      simp only [Option.bind_some]
      unfold impl_Decimal.f
      rw [if_pos (by omega), if_pos ⟨by omega, by omega⟩]
      simp only [Option.bind_some]
      have e1 : (c_name x.f0 ++ (⟨#[32]⟩ : ByteArray)).size = (c_name x.f0).size + 1 := by rw [ByteArray.size_append]; rfl
      have e2 : ((c_name x.f0 ++ (⟨#[32]⟩ : ByteArray)) ++ (⟨(Lib.itoa x.f1).toArray⟩ : ByteArray)).size = (c_name x.f0).size + 1 + (⟨(Lib.itoa x.f1).toArray⟩ : ByteArray).size := by rw [ByteArray.size_append, e1]
      rw [if_pos (by rw [e1]; omega), if_pos (by rw [e2]; omega), show ((c_name x.f0 ++ (⟨#[32]⟩ : ByteArray)) ++ (⟨(Lib.itoa x.f1).toArray⟩ : ByteArray)) ++ (⟨#[10]⟩ : ByteArray) = c_line x from rfl, if_pos (by omega), c_inc' (n := 60) (by omega) (by omega)]
      exact ih k (i + 1) (acc ++ c_line x) (by omega) (by omega) (by omega) (by rw [ByteArray.size_append]; omega)
    · rw [if_neg hc, if_neg hc]
theorem c_list_spec (l : List S36) (hl : l.length ≤ 60) (hok : ∀ x ∈ l, 0 ≤ x.f1 ∧ x.f1 ≤ 255) (d : Nat) : ∀ (k i : Nat) (acc : ByteArray), l.length - i = d → i ≤ l.length → d + 21 < k → acc.size ≤ 39 * i → spec_Listing.l0 k l acc i = some (c_lst acc (l.drop i)) := by
  induction d with
  | zero =>
    intro k i acc hd hi hk ha
    obtain ⟨k, rfl⟩ := c_up (k := k) (by omega)
    rw [spec_Listing.l0, if_neg (by omega), List.drop_eq_nil_of_le (by omega)]
    rfl
  | succ d ih =>
    intro k i acc hd hi hk ha
    obtain ⟨k, rfl⟩ := c_up (k := k) (by omega)
    have hx := hok _ (List.getElem_mem (show i < l.length by omega))
    have hd' : l.drop i = l[i]'(by omega) :: l.drop (i + 1) := List.drop_eq_getElem_cons (by omega)
    rw [spec_Listing.l0, if_pos (by omega), if_pos (by omega), c_rdI (by omega), hd', c_lst]
    generalize l[i]'(by omega) = x at hx
    have hn := c_name_size x.f0
    have hb := c_dec_size x.f1 hx.1 hx.2
    have hls := c_line_size x hx.1 hx.2
    rw [c_nameOf_same, c_nameOf]
    simp only [Option.bind_some]
    by_cases hc : c_in x.f0 0 17 = true
    · rw [if_neg (fun e => (c_name_nil x.f0).1 e hc), if_pos hc, c_decimal x.f1 (by omega) (by omega) k (by omega)]
      simp only [Option.bind_some]
      have e1 : (acc ++ c_name x.f0).size = acc.size + (c_name x.f0).size := ByteArray.size_append
      have e2 : ((acc ++ c_name x.f0) ++ (⟨#[32]⟩ : ByteArray)).size = acc.size + (c_name x.f0).size + 1 := by rw [ByteArray.size_append, e1]; rfl
      have e3 : (((acc ++ c_name x.f0) ++ (⟨#[32]⟩ : ByteArray)) ++ (⟨(Lib.itoa x.f1).toArray⟩ : ByteArray)).size = acc.size + (c_name x.f0).size + 1 + (⟨(Lib.itoa x.f1).toArray⟩ : ByteArray).size := by rw [ByteArray.size_append, e2]
      have e4 : (((acc ++ c_name x.f0) ++ (⟨#[32]⟩ : ByteArray)) ++ (⟨(Lib.itoa x.f1).toArray⟩ : ByteArray)) ++ (⟨#[10]⟩ : ByteArray) = acc ++ c_line x := by
        unfold c_line
        rw [ByteArray.append_assoc, ByteArray.append_assoc, ByteArray.append_assoc, ByteArray.append_assoc, ByteArray.append_assoc]
      rw [if_pos (by omega), if_pos (by rw [e1]; omega), if_pos (by rw [e2]; omega), if_pos (by rw [e3]; omega), e4, c_inc' (n := 60) (by omega) (by omega)]
      exact ih k (i + 1) (acc ++ c_line x) (by omega) (by omega) (by omega) (by rw [ByteArray.size_append]; omega)
    · rw [if_pos ((c_name_nil x.f0).2 hc), if_neg hc]
theorem c_code_args {l : List S36} (h : c_codeOk l = true) : l.length ≤ 60 ∧ ∀ x ∈ l, 0 ≤ x.f1 ∧ x.f1 ≤ 255 := by
  unfold c_codeOk at h
  rw [Bool.and_eq_true, decide_eq_true_iff, List.all_eq_true] at h
  refine ⟨h.2, fun x hx => ?_⟩
  have := h.1 x hx
  unfold c_okI at this
  rw [Bool.and_eq_true] at this
  exact c_in_iff.1 this.2
theorem c_Listing_impl (l : List S36) (hl : l.length ≤ 1048576) (k : Nat) (hk : l.length + 100 < k) : impl_Listing.f k l = some (c_listing l) := by
  unfold impl_Listing.f c_listing
  rw [c_CodeOk_impl l hl k (by omega)]
  simp only [Option.bind_some]
  by_cases h : c_codeOk l = true
  · obtain ⟨a, b⟩ := c_code_args h
    rw [if_pos h, if_pos h]
    exact c_list_impl l a b l.length k 0 _ rfl (by omega) (by omega) (by simp [ByteArray.size])
  · rw [if_neg h, if_neg h]
theorem c_Listing_spec (l : List S36) (hl : l.length ≤ 1048576) (k : Nat) (hk : l.length + 100 < k) : spec_Listing.f k l = some (c_listing l) := by
  unfold spec_Listing.f c_listing
  rw [c_CodeOk_spec l hl k (by omega)]
  simp only [Option.bind_some]
  by_cases h : c_codeOk l = true
  · obtain ⟨a, b⟩ := c_code_args h
    rw [if_pos h, if_pos h]
    exact c_list_spec l a b l.length k 0 _ rfl (by omega) (by omega) (by simp [ByteArray.size])
  · rw [if_neg h, if_neg h]

/-! ### instr_to -/
def c_toI (x : S38) : S36 := ⟨x.f0, x.f1⟩
theorem c_szInstr (l : List S38) (hl : l.length ≤ 9223372036854775807) : laws_szInstrS.f l 1048576 = some (if l.length > 1048576 then -1 else 1048576 - (l.length : Int)) := by
  unfold laws_szInstrS.f
  rw [c_wrap (by omega) (by omega)]
  by_cases h : l.length > 1048576
  · rw [if_pos (by omega), if_pos h]
  · rw [if_neg (by omega), if_neg h]
theorem c_toInstr_l (rest : List S38) : ∀ (k : Nat) (pre : List S38), pre.length + rest.length ≤ 9223372036854775807 → rest.length < k → laws_toInstrS.l0 k (pre ++ rest) (pre.map c_toI ++ List.replicate rest.length z36) (pre.length : Int) = some ((pre ++ rest).map c_toI) := by
  induction rest with
  | nil =>
    intro k pre hb hk
    obtain ⟨k, rfl⟩ := c_up (k := k) (by omega)
    rw [laws_toInstrS.l0, if_neg (by simp)]
    simp
  | cons a rest ih =>
    intro k pre hb hk
    rw [List.length_cons] at hb hk
    obtain ⟨k, rfl⟩ := c_up (k := k) (by omega)
    have hr : rd_T38 (pre ++ a :: rest) (pre.length : Int) = a := by
      unfold rd_T38
      simp
    have hset : (pre.map c_toI ++ List.replicate (a :: rest).length z36).set ((pre.length : Int)).toNat (⟨a.f0, a.f1⟩ : S36) = (pre ++ [a]).map c_toI ++ List.replicate rest.length z36 := by
      rw [Int.toNat_natCast, List.set_append_right _ _ (by simp), List.length_map, Nat.sub_self, List.length_cons, List.replicate_succ, List.set_cons_zero, List.map_append, List.append_assoc]
      rfl
    have hw := Aside0.mk (c_inc' (i := pre.length) (n := pre.length + 1) (by omega) (by omega))
    have := ih k (pre ++ [a]) (by rw [List.length_append, List.length_singleton]; omega) (by omega)
    rw [List.length_append, List.length_singleton, List.append_assoc] at this
    rw [laws_toInstrS.l0, if_pos (by rw [List.length_append, List.length_cons]; omega), if_pos (by omega), hr, laws_toInstr.f]
    simp only [Option.bind_some]
    rw [if_pos (by rw [List.length_append, List.length_map, List.length_replicate, List.length_cons]; omega), hset, hw.out]
    exact this
theorem c_toInstrS (l : List S38) (hl : l.length ≤ 1048576) (k : Nat) (hk : l.length < k) : laws_toInstrS.f k l = some (l.map c_toI) := by
  unfold laws_toInstrS.f
  rw [if_pos (by omega), if_pos (by omega), Int.toNat_natCast]
  exact c_toInstr_l l k [] (by simp; omega) hk

/-! ### instr_eq -/
theorem c_eqInstr_l (l : List S36) (hl : l.length ≤ 9223372036854775807) (d : Nat) : ∀ (k i : Nat), l.length - i = d → i ≤ l.length → d < k → laws_eqInstrS.l0 k l l i = some true := by
  induction d with
  | zero =>
    intro k i hd hi hk
    obtain ⟨k, rfl⟩ := c_up (k := k) (by omega)
    rw [laws_eqInstrS.l0, if_neg (by omega)]
  | succ d ih =>
    intro k i hd hi hk
    obtain ⟨k, rfl⟩ := c_up (k := k) (by omega)
    rw [laws_eqInstrS.l0, if_pos (by omega), if_pos (by omega), if_pos (by omega), laws_eqInstr.f, if_pos rfl, if_pos rfl, c_inc' (n := l.length) (by omega) hl]
    simp only [Option.bind_some, if_true]
    exact ih k (i + 1) (by omega) (by omega) (by omega)
theorem c_eqInstrS (l : List S36) (hl : l.length ≤ 9223372036854775807) (k : Nat) (hk : l.length < k) : laws_eqInstrS.f k l l = some true := by
  unfold laws_eqInstrS.f
  rw [if_pos rfl]
  exact c_eqInstr_l l hl l.length k 0 (by omega) (by omega) hk

/-! ### the law -/
theorem FnExactListing (l : List S38) (hl : l.length ≤ 9223372036854775807) : ∃ k, laws_FnExactListing.f k l = some true := by
  refine ⟨l.length + 102, ?_⟩
  unfold laws_FnExactListing.f
  rw [c_szInstr l hl]
  simp only [Option.bind_some]
  by_cases h : l.length > 1048576
  · rw [if_pos h, if_pos (by omega)]
  · have hm : (l.map c_toI).length = l.length := List.length_map ..
    rw [if_neg h, if_neg (by omega), c_toInstrS l (by omega) _ (by omega)]
    simp only [Option.bind_some]
    rw [c_Listing_spec _ (by omega) _ (by omega), c_Listing_impl _ (by omega) _ (by omega)]
    simp only [Option.bind_some, if_true, bne_self_eq_false]
    rw [laws_FnExactListing.j0, if_neg (by decide), c_toInstrS l (by omega) _ (by omega)]
    simp only [Option.bind_some]
    rw [c_eqInstrS _ (by omega) _ (by omega)]
    simp

end Go.Proofs.YteehopjgmgelnabDoor.Pure
