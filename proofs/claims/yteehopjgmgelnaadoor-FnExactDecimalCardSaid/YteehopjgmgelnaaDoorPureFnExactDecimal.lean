/- The plain law of FnExactDecimal: the reference's figures are the decimal numeral. -/
import Derived.Test.YteehopjgmgelnaaDoorWkFnExactDecimal
import Derived.Lib.ItoaLen
import Derived.Lib.LaidTab
import Derived.Stop.LaidErr
import Derived.Test.YteehopjgmgelnaaDoorRows
namespace Go.Proofs.YteehopjgmgelnaaDoor.PFnExactDecimal
open Go.RowKit Go.Proofs.YteehopjgmgelnaaDoorW.PrintWords
set_option linter.unusedVariables false
def c_fin (b : Bool) (l : List UInt8) : ByteArray := if b = true then ⟨((45 : UInt8) :: l).toArray⟩ else ⟨l.toArray⟩
theorem c_app (a b : List UInt8) : (⟨a.toArray⟩ ++ ⟨b.toArray⟩ : ByteArray) = ⟨(a ++ b).toArray⟩ := by
  apply ByteArray.ext
  simp
theorem c_size (l : List UInt8) : (⟨l.toArray⟩ : ByteArray).size = l.length := by simp [ByteArray.size]
theorem c_zero (b : Bool) (l : List UInt8) (hl : l.length ≤ 1000) : spec_Decimal.l0 1 0 b ⟨l.toArray⟩ = some (c_fin b l) := by
  unfold spec_Decimal.l0 c_fin
  rw [if_pos rfl]
  cases b
  · simp
  · rw [if_pos rfl, if_pos rfl, c_size, if_pos (by omega)]
    exact congrArg some (c_app [45] l)
theorem c_step (k : Nat) (x : Int) (b : Bool) (l : List UInt8) (hx : x ≠ 0) (h0 : -9223372036854775808 ≤ x) (h1 : x ≤ 9223372036854775807) (hl : l.length ≤ 1000) :
    spec_Decimal.l0 (k + 1) x b ⟨l.toArray⟩ = spec_Decimal.l0 k (Int.tdiv x 10) b ⟨(UInt8.ofNat (48 + x.natAbs % 10) :: l).toArray⟩ := by
  have hw : wrap64 (Int.tdiv x 10) = Int.tdiv x 10 := by
    have hq : (Int.tdiv x 10).natAbs = x.natAbs / 10 := by rw [Int.natAbs_tdiv]; rfl
    unfold wrap64; omega
  have key : ∀ d : Int, d = ((x.natAbs % 10 : Nat) : Int) → (spec_l01Figure.f d).bind (fun t105 => ((some (([t105] : List Int) : List Int)).bind fun y106 => (if (strOfNums y106).size + (⟨l.toArray⟩ : ByteArray).size ≤ 9223372036854775807 then (spec_Decimal.l0 k (wrap64 (Int.tdiv x 10)) b ((strOfNums y106) ++ ⟨l.toArray⟩)) else (none)))) = spec_Decimal.l0 k (Int.tdiv x 10) b ⟨(UInt8.ofNat (48 + x.natAbs % 10) :: l).toArray⟩ := by
    intro d hd
    have hd10 : d < 10 := by omega
    have hd0 : 0 ≤ d := by omega
    unfold spec_l01Figure.f
    rw [if_pos hd10]
    have hn : (wrap64 (48 + d)) % 256 = ((48 + x.natAbs % 10 : Nat) : Int) := by
      have : wrap64 (48 + d) = 48 + d := by unfold wrap64; omega
      rw [this]; omega
    rw [hn, Option.bind_some, Option.bind_some, strOfNums_size, c_size, if_pos (by simp; omega), hw]
    exact congrArg _ (c_app [UInt8.ofNat (48 + x.natAbs % 10)] l)
  conv => lhs; unfold spec_Decimal.l0
  rw [if_neg hx]
  split
  · rename_i hn
    refine key _ ?_
    have hq : (Int.tmod x 10).natAbs = x.natAbs % 10 := by rw [Int.natAbs_tmod]; rfl
    unfold wrap64; omega
  · rename_i hn
    refine key _ ?_
    have hq : (Int.tmod x 10).natAbs = x.natAbs % 10 := by rw [Int.natAbs_tmod]; rfl
    omega
theorem c_main (u : Nat) : ∀ (x : Int) (b : Bool) (l : List UInt8), x.natAbs = u → u ≠ 0 → -9223372036854775808 ≤ x → x ≤ 9223372036854775807 → l.length + Lib.nDigits u ≤ 1000 → ∃ k, spec_Decimal.l0 k x b ⟨l.toArray⟩ = some (c_fin b (Lib.decDigits u ++ l)) := by
  induction u using Nat.strongRecOn with
  | _ u ih =>
    intro x b l hu h0 hm hM hl
    have hp := Lib.nDigits_pos u
    have hq : (Int.tdiv x 10).natAbs = x.natAbs / 10 := by rw [Int.natAbs_tdiv]; rfl
    by_cases h : u < 10
    · have hz : Int.tdiv x 10 = 0 := by omega
      refine ⟨2, ?_⟩
      rw [c_step 1 x b l (by omega) hm hM (by omega), hz, c_zero b _ (by simp; omega)]
      rw [Lib.decDigits, dif_pos h, show x.natAbs % 10 = u by omega]
      rfl
    · obtain ⟨k, hk⟩ := ih (u / 10) (by omega) (Int.tdiv x 10) b (UInt8.ofNat (48 + x.natAbs % 10) :: l) (by omega) (by omega) (by omega) (by omega) (by rw [Lib.nDigits_big h] at hl; simp; omega)
      refine ⟨k + 1, ?_⟩
      rw [c_step k x b l (by omega) hm hM (by omega), hk, show x.natAbs = u from hu]
      conv => rhs; rw [Lib.decDigits, dif_neg h]
      simp
theorem c_decimal (n : Int) (h0 : -9223372036854775808 ≤ n) (h1 : n ≤ 9223372036854775807) : ∃ k, spec_Decimal.f k n = some ⟨(Lib.itoa n).toArray⟩ := by
  unfold spec_Decimal.f
  by_cases hz : n = 0
  · subst hz
    refine ⟨0, ?_⟩
    rw [if_pos rfl, show Lib.itoa 0 = Lib.decDigits 0 from rfl, Lib.decDigits, dif_pos (by omega)]
    rfl
  · obtain ⟨k, hk⟩ := c_main n.natAbs n (decide (n < 0)) [] rfl (by omega) h0 h1 (by have := Lib.nDigits_le20 n.natAbs (by omega); simp; omega)
    refine ⟨k, ?_⟩
    rw [if_neg hz]
    refine hk.trans ?_
    unfold c_fin Lib.itoa
    rw [List.append_nil]
    by_cases hn : n < 0
    · rw [if_pos (decide_eq_true hn), if_pos hn]
    · rw [if_neg (by simp [hn]), if_neg hn, show n.toNat = n.natAbs by omega]
/-- The row's condition lays the table. -/
theorem tab_of_laid {W : World} (h : laidMet Tryd.prog Rows.fnExactDecimalRow.laid W) : Tab W :=
  Lib.tabIs_of_head (t := 50) (e := 39) (n := 20) tab_named (by kernel_rfl) Tryd.underlying50 Tryd.underlying39 (by kernel_rfl) (by kernel_rfl) (rest := []) h.tail.tail
theorem laws_FnExactDecimal.told (n : Int) (wn : (Lit.int .i64 n).wf = true) (W : World) (h : laidMet Tryd.prog Rows.fnExactDecimalRow.laid W) :
    Calls Tryd.prog 3 #[.int .i64 n] W fun e w' => e = .returned (.bool true) ∧ Below W.heap.size W w' := by
  have hb : -9223372036854775808 ≤ n ∧ n ≤ 9223372036854775807 := by simpa [Lit.wf, IntKind.min, IntKind.max, IntKind.signed, IntKind.bits] using wn
  obtain ⟨k, hk⟩ := c_decimal n hb.1 hb.2
  exact laws_FnExactDecimal.calls k n hb.1 hb.2 _ rfl W (tab_of_laid h) hk
end Go.Proofs.YteehopjgmgelnaaDoor.PFnExactDecimal
