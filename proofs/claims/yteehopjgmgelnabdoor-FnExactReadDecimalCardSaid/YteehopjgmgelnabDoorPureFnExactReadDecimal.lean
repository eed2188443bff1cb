/- The plain law of FnExactReadDecimal: what the reference reads is what the library's Atoi and Itoa tell. -/
import Derived.Test.YteehopjgmgelnabDoorWkFnExactReadDecimal
import Derived.Lib.ItoaLen
import Derived.Lib.AtoiTie
import Derived.Lib.LaidTab
import Derived.Stop.LaidErr
import Derived.Test.YteehopjgmgelnabDoorRows
namespace Go.Proofs.YteehopjgmgelnabDoor.PFnExactReadDecimal
open Go.RowKit Go.Proofs.YteehopjgmgelnabDoorW.PrintWords
set_option linter.unusedVariables false
def c_fin (b : Bool) (l : List UInt8) : ByteArray := if b = true then ⟨((45 : UInt8) :: l).toArray⟩ else ⟨l.toArray⟩
theorem c_app (a b : List UInt8) : (⟨a.toArray⟩ ++ ⟨b.toArray⟩ : ByteArray) = ⟨(a ++ b).toArray⟩ := by
  apply ByteArray.ext
  simp
theorem c_size (l : List UInt8) : (⟨l.toArray⟩ : ByteArray).size = l.length := by simp [ByteArray.size]
theorem c_zero (b : Bool) (l : List UInt8) (hl : l.length ≤ 1000) : spec_Decimal.l0 1 0 b ⟨l.toArray⟩ = some (c_fin b l) := by
  unfold spec_Decimal.l0 c_fin
  rw [if_pos rfl]
  cases b
  · simp
  · rw [if_pos rfl, if_pos rfl, c_size, if_pos (by omega)]
    exact congrArg some (c_app [45] l)
theorem c_step (k : Nat) (x : Int) (b : Bool) (l : List UInt8) (hx : x ≠ 0) (h0 : -9223372036854775808 ≤ x) (h1 : x ≤ 9223372036854775807) (hl : l.length ≤ 1000) :
    spec_Decimal.l0 (k + 1) x b ⟨l.toArray⟩ = spec_Decimal.l0 k (Int.tdiv x 10) b ⟨(UInt8.ofNat (48 + x.natAbs % 10) :: l).toArray⟩ := by
  have hw : wrap64 (Int.tdiv x 10) = Int.tdiv x 10 := by
    have hq : (Int.tdiv x 10).natAbs = x.natAbs / 10 := by rw [Int.natAbs_tdiv]; rfl
    unfold wrap64; omega
  have key : ∀ d : Int, d = ((x.natAbs % 10 : Nat) : Int) → (spec_l01Figure.f d).bind (fun t105 => ((some (([t105] : List Int) : List Int)).bind fun y106 => (if (strOfNums y106).size + (⟨l.toArray⟩ : ByteArray).size ≤ 9223372036854775807 then (spec_Decimal.l0 k (wrap64 (Int.tdiv x 10)) b ((strOfNums y106) ++ ⟨l.toArray⟩)) else (none)))) = spec_Decimal.l0 k (Int.tdiv x 10) b ⟨(UInt8.ofNat (48 + x.natAbs % 10) :: l).toArray⟩ := by
    intro d hd
    have hd10 : d < 10 := by omega
    have hd0 : 0 ≤ d := by omega
    unfold spec_l01Figure.f
    rw [if_pos hd10]
    have hn : (wrap64 (48 + d)) % 256 = ((48 + x.natAbs % 10 : Nat) : Int) := by
      have : wrap64 (48 + d) = 48 + d := by unfold wrap64; omega
      rw [this]; omega
    rw [hn, Option.bind_some, Option.bind_some, strOfNums_size, c_size, if_pos (by simp; omega), hw]
    exact congrArg _ (c_app [UInt8.ofNat (48 + x.natAbs % 10)] l)
  conv => lhs; unfold spec_Decimal.l0
  rw [if_neg hx]
  split
  · rename_i hn
    refine key _ ?_
    have hq : (Int.tmod x 10).natAbs = x.natAbs % 10 := by rw [Int.natAbs_tmod]; rfl
    unfold wrap64; omega
  · rename_i hn
    refine key _ ?_
    have hq : (Int.tmod x 10).natAbs = x.natAbs % 10 := by rw [Int.natAbs_tmod]; rfl
    omega
theorem c_main (u : Nat) : ∀ (x : Int) (b : Bool) (l : List UInt8), x.natAbs = u → u ≠ 0 → -9223372036854775808 ≤ x → x ≤ 9223372036854775807 → l.length + Lib.nDigits u ≤ 1000 → ∃ k, spec_Decimal.l0 k x b ⟨l.toArray⟩ = some (c_fin b (Lib.decDigits u ++ l)) := by
  induction u using Nat.strongRecOn with
  | _ u ih =>
    intro x b l hu h0 hm hM hl
    have hp := Lib.nDigits_pos u
    have hq : (Int.tdiv x 10).natAbs = x.natAbs / 10 := by rw [Int.natAbs_tdiv]; rfl
    by_cases h : u < 10
    · have hz : Int.tdiv x 10 = 0 := by omega
      refine ⟨2, ?_⟩
      rw [c_step 1 x b l (by omega) hm hM (by omega), hz, c_zero b _ (by simp; omega)]
      rw [Lib.decDigits, dif_pos h, show x.natAbs % 10 = u by omega]
      rfl
    · obtain ⟨k, hk⟩ := ih (u / 10) (by omega) (Int.tdiv x 10) b (UInt8.ofNat (48 + x.natAbs % 10) :: l) (by omega) (by omega) (by omega) (by omega) (by rw [Lib.nDigits_big h] at hl; simp; omega)
      refine ⟨k + 1, ?_⟩
      rw [c_step k x b l (by omega) hm hM (by omega), hk, show x.natAbs = u from hu]
      conv => rhs; rw [Lib.decDigits, dif_neg h]
      simp
theorem c_decimal (n : Int) (h0 : -9223372036854775808 ≤ n) (h1 : n ≤ 9223372036854775807) : ∃ k, spec_Decimal.f k n = some ⟨(Lib.itoa n).toArray⟩ := by
  unfold spec_Decimal.f
  by_cases hz : n = 0
  · subst hz
    refine ⟨0, ?_⟩
    rw [if_pos rfl, show Lib.itoa 0 = Lib.decDigits 0 from rfl, Lib.decDigits, dif_pos (by omega)]
    rfl
  · obtain ⟨k, hk⟩ := c_main n.natAbs n (decide (n < 0)) [] rfl (by omega) h0 h1 (by have := Lib.nDigits_le20 n.natAbs (by omega); simp; omega)
    refine ⟨k, ?_⟩
    rw [if_neg hz]
    refine hk.trans ?_
    unfold c_fin Lib.itoa
    rw [List.append_nil]
    by_cases hn : n < 0
    · rw [if_pos (decide_eq_true hn), if_pos hn]
    · rw [if_neg (by simp [hn]), if_neg hn, show n.toNat = n.natAbs by omega]

/-- The value of figures, from the left. -/
def c_val (n : Nat) (l : List UInt8) : Nat := l.foldl (fun m c => 10 * m + (c.toNat - 48)) n
theorem c_val_nil (n : Nat) : c_val n [] = n := rfl
theorem c_val_cons (n : Nat) (c : UInt8) (r : List UInt8) : c_val n (c :: r) = c_val (10 * n + (c.toNat - 48)) r := by
  unfold c_val
  rw [List.foldl_cons]
def c_digits (l : List UInt8) : Prop := ∀ c ∈ l, 48 ≤ c.toNat ∧ c.toNat ≤ 57
theorem c_val_app (a b : List UInt8) : ∀ n, c_val n (a ++ b) = c_val (c_val n a) b := by
  induction a with
  | nil => intro n; rfl
  | cons c r ih => intro n; exact ih _
theorem c_dig (u : Nat) (h : u < 10) : (UInt8.ofNat (48 + u)).toNat = 48 + u := by
  rw [UInt8.toNat_ofNat']; omega
theorem c_val_dec (u : Nat) : c_val 0 (Lib.decDigits u) = u := by
  induction u using Nat.strongRecOn with
  | _ u ih =>
    rw [Lib.decDigits]
    by_cases h : u < 10
    · rw [dif_pos h]
      show 10 * 0 + ((UInt8.ofNat (48 + u)).toNat - 48) = u
      rw [c_dig u h]; omega
    · rw [dif_neg h, c_val_app, ih (u / 10) (by omega)]
      show 10 * (u / 10) + ((UInt8.ofNat (48 + u % 10)).toNat - 48) = u
      rw [c_dig _ (by omega)]; omega
theorem c_digits_dec (u : Nat) : c_digits (Lib.decDigits u) := by
  induction u using Nat.strongRecOn with
  | _ u ih =>
    intro c hc
    rw [Lib.decDigits] at hc
    by_cases h : u < 10
    · rw [dif_pos h, List.mem_singleton] at hc
      rw [hc, c_dig u h]; omega
    · rw [dif_neg h, List.mem_append, List.mem_singleton] at hc
      rcases hc with hc | hc
      · exact ih (u / 10) (by omega) c hc
      · rw [hc, c_dig _ (by omega)]; omega
theorem c_val_le (l : List UInt8) (hd : c_digits l) : ∀ n, c_val n l + 1 ≤ (n + 1) * 10 ^ l.length := by
  induction l with
  | nil => intro n; rw [c_val_nil]; simp
  | cons c r ih =>
    intro n
    have hc := hd c List.mem_cons_self
    have h := ih (fun x hx => hd x (List.mem_cons_of_mem _ hx)) (10 * n + (c.toNat - 48))
    show c_val (10 * n + (c.toNat - 48)) r + 1 ≤ _
    rw [List.length_cons, Nat.pow_succ]
    have h2 : (10 * n + (c.toNat - 48) + 1) * 10 ^ r.length ≤ ((n + 1) * 10) * 10 ^ r.length := Nat.mul_le_mul_right _ (by omega)
    have h3 : ((n + 1) * 10) * 10 ^ r.length = (n + 1) * (10 ^ r.length * 10) := by rw [Nat.mul_assoc, Nat.mul_comm 10]
    omega
theorem c_val_ge (l : List UInt8) : ∀ n, n ≤ c_val n l := by
  induction l with
  | nil => intro n; exact Nat.le_refl _
  | cons x t ih =>
    intro n
    have h := ih (10 * n + (x.toNat - 48))
    rw [c_val_cons]
    omega
/-- Figures are parsed to their value. -/
theorem c_parse (l : List UInt8) (hd : c_digits l) : ∀ n, c_val n l < 18446744073709551616 → Lib.parseUint10 n l = .ok (c_val n l) := by
  induction l with
  | nil => intro n _; rfl
  | cons c r ih =>
    intro n hn
    have hc := hd c List.mem_cons_self
    have hr : c_digits r := fun x hx => hd x (List.mem_cons_of_mem _ hx)
    have hge := c_val_ge r (10 * n + (c.toNat - 48))
    rw [c_val_cons] at hn ⊢
    rw [Lib.parseUint10, if_pos hc, if_neg (by omega), if_neg (by omega), show n * 10 + (c.toNat - 48) = 10 * n + (c.toNat - 48) by omega]
    exact ih hr _ hn
theorem c_atoi (l : List UInt8) (hd : c_digits l) (hne : l ≠ []) (hv : c_val 0 l < 9223372036854775808) : Lib.atoiAll l = .ok (c_val 0 l : Int) := by
  cases l with
  | nil => exact absurd rfl hne
  | cons c r =>
    have hc := hd c List.mem_cons_self
    unfold Lib.atoiAll
    simp only
    rw [if_neg (c := c.toNat = 43 ∨ c.toNat = 45) (by omega), Lib.parseMag, if_neg (by simp), c_parse _ hd 0 (by omega)]
    simp only
    rw [if_neg (by omega), if_neg (by omega), if_neg (by omega)]
/-- The numeral's own value. -/
theorem c_itoa (v : Int) (h0 : 0 ≤ v) : c_digits (Lib.itoa v) ∧ c_val 0 (Lib.itoa v) = v.toNat ∧ Lib.itoa v ≠ [] ∧ (Lib.itoa v).length = Lib.nDigits v.toNat := by
  have e : Lib.itoa v = Lib.decDigits v.toNat := by unfold Lib.itoa; rw [if_neg (by omega)]
  rw [e]
  refine ⟨c_digits_dec _, c_val_dec _, fun h => ?_, Lib.decDigits_length _⟩
  have h1 := congrArg List.length h
  rw [Lib.decDigits_length, List.length_nil] at h1
  have h2 := Lib.nDigits_pos v.toNat
  omega
/-- The reading in plain words: figures alone, no more than 10^9, and its own numeral. -/
theorem c_read_yes (s : ByteArray) (v : Int) (h0 : 0 ≤ v) (h1 : v ≤ 1000000000) (h : Lib.itoa v = s.data.toList) : c_read s = (v, true) := by
  obtain ⟨a, b, c, _⟩ := c_itoa v h0
  have ha : Lib.atoiAll s.data.toList = .ok v := by
    rw [← h, c_atoi _ a c (by rw [b]; omega), b]
    congr 1
    omega
  rw [c_read_ok ha, if_pos ⟨⟨h0, h1⟩, h⟩]
theorem c_read_no (s : ByteArray) (h : ∀ v : Int, 0 ≤ v → v ≤ 1000000000 → Lib.itoa v ≠ s.data.toList) : c_read s = (0, false) := by
  unfold c_read
  split
  · rename_i v _
    rw [if_neg (fun x => h v x.1.1 x.1.2 x.2)]
  · rfl
theorem c_bt (s : ByteArray) (i : Nat) (h : i < s.size) : bt s (i : Int) = (s.data.toList[i]'(by rw [Array.length_toList]; exact h)).toNat := by
  unfold bt
  have h2 : i < s.data.toList.length := by rw [Array.length_toList]; exact h
  rw [dif_pos (show (i : Int).toNat < s.size from h)]
  rfl
theorem c_wrap {n : Int} (h0 : -9223372036854775808 ≤ n) (h1 : n ≤ 9223372036854775807) : wrap64 n = n := by unfold wrap64; omega
/-- The reference's loop. -/
theorem c_loop (s : ByteArray) (hs : s.size ≤ 10) (d : Nat) : ∀ i : Nat, s.size - i = d → i ≤ s.size → c_digits (s.data.toList.take i) → ∃ k0, ∀ k, k0 ≤ k → spec_ReadDecimal.l0 k s (c_val 0 (s.data.toList.take i)) (i : Int) = some (c_read s) := by
  have hlen : s.data.toList.length = s.size := Array.length_toList
  induction d with
  | zero =>
    intro i hd hi hg
    have hall : s.data.toList.take i = s.data.toList := List.take_of_length_le (by omega)
    rw [hall] at hg ⊢
    have hb := c_val_le _ hg 0
    have hp : (0 + 1) * 10 ^ s.data.toList.length ≤ 10 ^ 10 := by rw [Nat.zero_add, Nat.one_mul]; exact Nat.pow_le_pow_right (by omega) (by omega)
    have hv : c_val 0 s.data.toList < 10000000000 := by omega
    obtain ⟨k1, hk1⟩ := c_decimal (c_val 0 s.data.toList : Int) (by omega) (by omega)
    have hmono : ∀ k, k1 ≤ k → spec_Decimal.f k (c_val 0 s.data.toList : Int) = some ⟨(Lib.itoa (c_val 0 s.data.toList : Int)).toArray⟩ := by
      intro k hk
      induction k with
      | zero => rw [show k1 = 0 by omega] at hk1; exact hk1
      | succ n ih =>
        by_cases h : k1 = n + 1
        · rw [← h]; exact hk1
        · exact spec_Decimal.mono _ _ _ (ih (by omega))
    refine ⟨k1 + 1, fun k hk => ?_⟩
    obtain ⟨k, rfl⟩ : ∃ m, k = m + 1 := ⟨k - 1, by omega⟩
    rw [spec_ReadDecimal.l0, if_neg (by omega)]
    by_cases hbig : (c_val 0 s.data.toList : Int) > 1000000000
    · rw [if_pos hbig, c_read_no]
      intro v h0 h1 e
      obtain ⟨_, b, _, _⟩ := c_itoa v h0
      rw [e] at b
      omega
    · rw [if_neg hbig, hmono k (by omega), Option.bind_some]
      by_cases he : Lib.itoa (c_val 0 s.data.toList : Int) = s.data.toList
      · rw [if_pos (by rw [ByteArray.toList_eq, ByteArray.toList_eq]; simpa using he), c_read_yes s _ (by omega) (by omega) he]
      · rw [if_neg (by rw [ByteArray.toList_eq, ByteArray.toList_eq]; simpa using he), c_read_no]
        intro v h0 h1 e
        obtain ⟨_, b, _, _⟩ := c_itoa v h0
        rw [e] at b
        apply he
        rw [b, show ((v.toNat : Nat) : Int) = v by omega]
        exact e
  | succ d ih =>
    intro i hd hi hg
    have hib : i < s.data.toList.length := by omega
    by_cases hc : 48 ≤ (s.data.toList[i]).toNat ∧ (s.data.toList[i]).toNat ≤ 57
    · have htk : s.data.toList.take (i + 1) = s.data.toList.take i ++ [s.data.toList[i]] := by rw [List.take_succ_eq_append_getElem hib]
      obtain ⟨k0, hk0⟩ := ih (i + 1) (by omega) (by omega) (by
        rw [htk]
        intro c hcm
        rcases List.mem_append.1 hcm with hcm | hcm
        · exact hg c hcm
        · rw [List.mem_singleton.1 hcm]; exact hc)
      refine ⟨k0 + 1, fun k hk => ?_⟩
      obtain ⟨k, rfl⟩ : ∃ m, k = m + 1 := ⟨k - 1, by omega⟩
      have hb := c_val_le _ hg 0
      have hp : (0 + 1) * 10 ^ (s.data.toList.take i).length ≤ 10 ^ 10 := by rw [Nat.zero_add, Nat.one_mul]; exact Nat.pow_le_pow_right (by omega) (by rw [List.length_take]; omega)
      have hv : c_val 0 (s.data.toList.take i) < 10000000000 := by omega
      have hval : c_val 0 (s.data.toList.take (i + 1)) = 10 * c_val 0 (s.data.toList.take i) + ((s.data.toList[i]).toNat - 48) := by rw [htk, c_val_app]; rfl
      have hk0' := hk0 k (by omega)
      rw [hval] at hk0'
      rw [spec_ReadDecimal.l0, if_pos (by omega), if_pos (by omega), c_bt s i (by omega), if_neg (by omega), if_neg (by omega)]
      generalize c_val 0 (s.data.toList.take i) = m at hv hk0' ⊢
      generalize (s.data.toList[i]).toNat = c at hc hk0' ⊢
      rw [c_wrap (n := 10 * (m : Int)) (by omega) (by omega), c_wrap (n := (c : Int)) (by omega) (by omega), c_wrap (n := 10 * (m : Int) + (c : Int)) (by omega) (by omega), c_wrap (n := 10 * (m : Int) + (c : Int) - 48) (by omega) (by omega), c_wrap (n := (i : Int) + 1) (by omega) (by omega)]
      rw [show 10 * (m : Int) + (c : Int) - 48 = ((10 * m + (c - 48) : Nat) : Int) by omega]
      exact hk0'
    · refine ⟨1, fun k hk => ?_⟩
      obtain ⟨k, rfl⟩ : ∃ m, k = m + 1 := ⟨k - 1, by omega⟩
      have hno : c_read s = (0, false) := by
        apply c_read_no
        intro v h0 h1 e
        obtain ⟨a, _, _, _⟩ := c_itoa v h0
        rw [e] at a
        exact hc (a _ (List.getElem_mem _))
      rw [spec_ReadDecimal.l0, if_pos (by omega), if_pos (by omega), c_bt s i (by omega), hno]
      by_cases h48 : (((s.data.toList[i]).toNat : Nat) : Int) < 48
      · rw [if_pos h48]
      · rw [if_neg h48, if_pos (by omega)]
theorem c_nd10 (n : Nat) : ∀ u : Nat, u < 10 ^ n → 0 < n → Lib.nDigits u ≤ n := by
  induction n with
  | zero => intro u _ h; omega
  | succ n ih =>
    intro u hu _
    by_cases h : u < 10
    · rw [Lib.nDigits_small h]; omega
    · rw [Lib.nDigits_big h]
      have hp : 10 ^ (n + 1) = 10 ^ n * 10 := Nat.pow_succ ..
      have hn : 0 < n := by
        rcases Nat.eq_zero_or_pos n with rfl | hn
        · simp at hu; omega
        · exact hn
      have := ih (u / 10) (by omega) hn
      omega
theorem c_nd (u : Nat) (h : u ≤ 1000000000) : Lib.nDigits u ≤ 10 := c_nd10 10 u (by omega) (by omega)
theorem c_ReadDecimal (s : ByteArray) : ∃ k, spec_ReadDecimal.f k s = some (c_read s) := by
  have hlen : s.data.toList.length = s.size := Array.length_toList
  unfold spec_ReadDecimal.f
  by_cases h : (s.size : Int) > 10
  · refine ⟨0, ?_⟩
    rw [if_pos h, c_read_no]
    intro v h0 h1 e
    obtain ⟨_, _, _, b⟩ := c_itoa v h0
    rw [e, hlen] at b
    have : Lib.nDigits v.toNat ≤ 10 := by
      exact c_nd v.toNat (by omega)
    omega
  · obtain ⟨k0, hk⟩ := c_loop s (by omega) s.size 0 rfl (by omega) (by intro c hc; simp at hc)
    refine ⟨k0, ?_⟩
    rw [if_neg h]
    exact hk k0 (Nat.le_refl _)
theorem star : ( "*" ++ "errors.errorString") = "*errors.errorString" := by decide
theorem row73 (u : TypeId) (h : Tryd.prog.typeName? 3 u = some "*errors.errorString") : u = 73 :=
  typeName_ptr_named (nm := "errors.errorString") (by rw [star]; kernel_rfl) (by kernel_rfl) (by decide) u (by rw [star]; exact h)
theorem tab_of_laid {W : World} (h : laidMet Tryd.prog Rows.fnExactReadDecimalRow.laid W) : Tab W :=
  Lib.tabIs_of_head (t := 78) (e := 58) (n := 20) tab_named (by kernel_rfl) Tryd.underlying78 Tryd.underlying58 (by kernel_rfl) (by kernel_rfl) h.tail.tail
theorem laws_FnExactReadDecimal.told (s : ByteArray) (hs : s.size ≤ 140737488351232) (W : World) (h : laidMet Tryd.prog Rows.fnExactReadDecimalRow.laid W) :
    Calls Tryd.prog 4 #[.string s] W fun e w' => e = .returned (.bool true) ∧ Below W.heap.size W w' := by
  obtain ⟨k, hk⟩ := c_ReadDecimal s
  obtain ⟨a1, s1, e2, -, -, -⟩ := laid_sentinel h.tail.tail.tail rng_named (by kernel_rfl) Tryd.underlying42 row73 Tryd.underlying73 Tryd.underlying75 rfl rfl Tryd.underlying9 (by kernel_rfl) (by kernel_rfl)
  obtain ⟨a0, s0, e1, -, -, -⟩ := laid_sentinel h.tail.tail.tail.tail syn_named (by kernel_rfl) Tryd.underlying42 row73 Tryd.underlying73 Tryd.underlying75 rfl rfl Tryd.underlying9 (by kernel_rfl) (by kernel_rfl)
  exact laws_FnExactReadDecimal.calls k s (by omega) W (tab_of_laid h) _ _ _ _ e1 e2 hk
end Go.Proofs.YteehopjgmgelnabDoor.PFnExactReadDecimal
