/- What the law FnExactDecimal computes: its walk, over the library's contract of Itoa. -/
import Derived.Test.YteehopjgmgelnaaDoorMFnExactDecimalx1
import Derived.Test.YteehopjgmgelnaaDoorShelf
import Derived.Lib.AppendIntMem
import Derived.WalkSmall
namespace Go.Proofs.YteehopjgmgelnaaDoor.PFnExactDecimal
open Go.RowKit Go.Proofs.YteehopjgmgelnaaDoorW.PrintWords Go.Proofs.YteehopjgmgelnaaDoorW.PrintLast Go.Proofs.YteehopjgmgelnaaDoorW.PrintMore
set_option linter.unusedVariables false
set_option linter.unusedSimpArgs false
/-- The table of the powers of ten holds what it holds. -/
abbrev Tab (w : World) : Prop := Lib.TabIs Tryd.prog w "internal/strconv.uint64pow10" .u64 Lib.pow10Tab
theorem tab_named : Tryd.prog.globalNamed "internal/strconv.uint64pow10" = some 0 := by kernel_rfl
theorem Tab.below {w w' : World} (h : Tab w) (hb : Below w.heap.size w w') : Tab w' := by
  have hg := tab_named
  have hc := World.var?_cell hg h 0
  have hlt := World.block_lt_of_cell? w ⟨0, 0, none⟩ (u := .int .u64 1) (hc.trans rfl)
  exact Go.var?_below hb hg hlt h
set_option maxHeartbeats 8000000 in
set_option maxRecDepth 100000 in
theorem impl_Decimal.calls (n : Int) (h0 : -9223372036854775808 ≤ n) (h1 : n ≤ 9223372036854775807) (w : World) (ht : Tab w) :
    Calls Tryd.prog 6 #[.int .i64 n] w fun e w' => e = .returned (.string ⟨(Lib.itoa n).toArray⟩) ∧ Below w.heap.size w w' := by
  have HT := Aside0.mk ht
  clear ht
  go_enter Tryd.func6, Tryd.ntmps6
  go_wp2_with (go_at_call 13; refine (Tryd.strconv_Itoa n h0 h1 _ HT.out).mono ?_; rintro e w' ⟨rfl, k, os, rfl⟩)
  go_ret
  exact ⟨rfl, Lib.below_grow _ _ (Nat.le_refl _) _ _⟩
set_option maxHeartbeats 8000000 in
set_option maxRecDepth 100000 in
theorem laws_FnExactDecimal.calls (k : Nat) (n : Int) (h0 : -9223372036854775808 ≤ n) (h1 : n ≤ 9223372036854775807) (r : ByteArray) (hr : r = ⟨(Lib.itoa n).toArray⟩) (w : World) (ht : Tab w) (h : spec_Decimal.f k n = some r) :
    Calls Tryd.prog 3 #[.int .i64 n] w fun e w' => e = .returned (.bool true) ∧ Below w.heap.size w w' := by
  have HT := Aside0.mk ht
  have HH := Aside0.mk h
  have HR := Aside0.mk hr
  clear ht h hr
  go_enter Tryd.func3, Tryd.ntmps3
  go_wp2_with (first
    | (go_at_call 5; refine (spec_Decimal.calls k n r _ HH.out).mono ?_; rintro e w1 ⟨rfl, hb1⟩; have HB1 := Aside0.mk hb1; clear hb1)
    | (go_at_call 6; refine (impl_Decimal.calls n h0 h1 _ (HT.out.below HB1.out)).mono ?_; rintro e w2 ⟨rfl, hb2⟩; rw [← HR.out]; have HB2 := Aside0.mk hb2; clear hb2))
  go_ret
  exact ⟨rfl, below_step HB1.out HB2.out⟩
end Go.Proofs.YteehopjgmgelnaaDoor.PFnExactDecimal
