/- What the law FnExactReadDecimal computes: its walk, over the library's contracts of Atoi and Itoa. -/
import Derived.Test.YteehopjgmgelnabDoorMFnExactReadDecimalx1
import Derived.Test.YteehopjgmgelnabDoorMFnExactReadDecimalx3
import Derived.Test.YteehopjgmgelnabDoorShelf
import Derived.Lib.AppendIntMem
import Derived.Lib.SmallJoins
import Derived.WalkSmall
namespace Go.Proofs.YteehopjgmgelnabDoor.PFnExactReadDecimal
open Go.RowKit Go.Proofs.YteehopjgmgelnabDoorW.PrintWords Go.Proofs.YteehopjgmgelnabDoorW.PrintLast Go.Proofs.YteehopjgmgelnabDoorW.PrintMore
set_option linter.unusedVariables false
set_option linter.unusedSimpArgs false
/-- The table of the powers of ten holds what it holds. -/
abbrev Tab (w : World) : Prop := Lib.TabIs Tryd.prog w "internal/strconv.uint64pow10" .u64 Lib.pow10Tab
theorem tab_named : Tryd.prog.globalNamed "internal/strconv.uint64pow10" = some 2 := by kernel_rfl
theorem Tab.below {w w' : World} (h : Tab w) (hb : Below w.heap.size w w') : Tab w' := by
  have hg := tab_named
  have hc := World.var?_cell hg h 0
  have hlt := World.block_lt_of_cell? w ⟨2, 0, none⟩ (u := .int .u64 1) (hc.trans rfl)
  exact Go.var?_below hb hg hlt h
theorem syn_named : Tryd.prog.globalNamed "strconv.ErrSyntax" = some 0 := by kernel_rfl
theorem rng_named : Tryd.prog.globalNamed "strconv.ErrRange" = some 1 := by kernel_rfl
theorem syn_lt {w : World} {v : Value} (h : w.var? Tryd.prog "strconv.ErrSyntax" = some #[v]) : 0 < w.heap.size :=
  World.block_lt_of_cell? w ⟨0, 0, none⟩ (u := v) ((World.var?_cell syn_named h 0).trans rfl)
theorem rng_lt {w : World} {v : Value} (h : w.var? Tryd.prog "strconv.ErrRange" = some #[v]) : 1 < w.heap.size :=
  World.block_lt_of_cell? w ⟨1, 0, none⟩ (u := v) ((World.var?_cell rng_named h 0).trans rfl)
set_option maxHeartbeats 8000000 in
set_option maxRecDepth 100000 in
theorem impl_Decimal.calls (n : Int) (h0 : -9223372036854775808 ≤ n) (h1 : n ≤ 9223372036854775807) (w : World) (ht : Tab w) :
    Calls Tryd.prog 19 #[.int .i64 n] w fun e w' => e = .returned (.string ⟨(Lib.itoa n).toArray⟩) ∧ Below w.heap.size w w' := by
  have HT := Aside0.mk ht
  clear ht
  go_enter Tryd.func19, Tryd.ntmps19
  go_wp2_with (go_at_call 27; refine (Tryd.strconv_Itoa n h0 h1 _ HT.out).mono ?_; rintro e w' ⟨rfl, k, os, rfl⟩)
  go_ret
  exact ⟨rfl, Lib.below_grow _ _ (Nat.le_refl _) _ _⟩
/-- What a text of figures reads as: a number in 0 .. 10^9, as its own numeral; else none. -/
def c_read (s : ByteArray) : Int × Bool :=
  match Lib.atoiAll s.data.toList with
  | .ok v => if (0 ≤ v ∧ v ≤ 1000000000) ∧ Lib.itoa v = s.data.toList then (v, true) else (0, false)
  | _ => (0, false)
theorem c_read_ok {s : ByteArray} {v : Int} (h : Lib.atoiAll s.data.toList = .ok v) : c_read s = if (0 ≤ v ∧ v ≤ 1000000000) ∧ Lib.itoa v = s.data.toList then (v, true) else (0, false) := by
  unfold c_read
  rw [h]
theorem c_within (n l h : Int) : impl_within.f n l h = some (decide (l ≤ n) && decide (n ≤ h)) := by
  unfold impl_within.f
  by_cases c : n ≥ l
  · rw [if_pos c, decide_eq_true c]; rfl
  · rw [if_neg c, decide_eq_false c]; rfl
theorem below_atoi {w w' : World} (h : w' = w ∨ ∃ t, w' = Lib.bytesWorld w 5 t) : Below w.heap.size w w' := by
  rcases h with rfl | ⟨t, rfl⟩
  · exact Below.refl _ _
  · exact Joins.below_bytesWorld _ _ _ _ (Nat.le_refl _)
set_option maxHeartbeats 8000000 in
set_option maxRecDepth 100000 in
/-- No numeral: an error comes back. -/
theorem impl_ReadDecimal.none (s : ByteArray) (w : World) (x : Int)
    (ha : Calls Tryd.prog 21 #[.string s] w fun e w' => ∃ N, e = .returned (.tuple #[.int .i64 x, .iface 54 (.pointer (some ⟨N, 0, none⟩))]) ∧ Below w.heap.size w w') :
    Calls Tryd.prog 11 #[.string s] w fun e w' => e = .returned (.tuple #[.int .i64 0, .bool false]) ∧ Below w.heap.size w w' := by
  have HA := Aside0.mk ha
  clear ha
  go_enter Tryd.func11, Tryd.ntmps11
  go_wp2_with (go_at_call 21; refine HA.out.mono ?_; rintro e w1 ⟨N_, rfl, hb⟩; have HB := Aside0.mk hb; clear hb)
  go_ret2
  exact ⟨rfl, HB.out⟩
set_option maxHeartbeats 8000000 in
set_option maxRecDepth 100000 in
/-- A number that is too small or too great. -/
theorem impl_ReadDecimal.far (s : ByteArray) (hs : s.size ≤ 9223372036854775806) (w : World) (v : Int) (hv : Lib.atoiAll s.data.toList = .ok v) (hn : (decide (0 ≤ v) && decide (v ≤ 1000000000)) = false) :
    Calls Tryd.prog 11 #[.string s] w fun e w' => e = .returned (.tuple #[.int .i64 0, .bool false]) ∧ Below w.heap.size w w' := by
  have HV := Aside0.mk hv
  have HW := Aside0.mk ((c_within v 0 1000000000).trans (congrArg some hn))
  clear hv hn
  go_enter Tryd.func11, Tryd.ntmps11
  go_wp2_with (first
    | (go_at_call 21; refine (Tryd.strconv_Atoi_ok s hs v HV.out _).mono ?_; rintro e w1 ⟨rfl, hb⟩; have HB := Aside0.mk (below_atoi hb); clear hb)
    | (go_at_call 22; refine (impl_within.calls v 0 1000000000 false _ HW.out).mono ?_; rintro e w' ⟨rfl, ⟨nd, rfl⟩⟩))
  go_ret2
  exact ⟨rfl, pw_below_drewN HB.out _⟩
set_option maxHeartbeats 8000000 in
set_option maxRecDepth 100000 in
/-- A number within bounds: is the text its own numeral? -/
theorem impl_ReadDecimal.near (s : ByteArray) (hs : s.size ≤ 9223372036854775806) (w : World) (ht : Tab w) (v : Int) (hv : Lib.atoiAll s.data.toList = .ok v) (h0 : 0 ≤ v) (h1 : v ≤ 1000000000) (d : ByteArray) (hd : d = ⟨(Lib.itoa v).toArray⟩) (b : Bool) (hb : (d.toList == s.toList) = b) :
    Calls Tryd.prog 11 #[.string s] w fun e w' => e = .returned (.tuple #[.int .i64 (if b = true then v else 0), .bool b]) ∧ Below w.heap.size w w' := by
  have HT := Aside0.mk ht
  have HV := Aside0.mk hv
  have HD := Aside0.mk hd
  have HW := Aside0.mk ((c_within v 0 1000000000).trans (congrArg some (show _ = true by rw [decide_eq_true h0, decide_eq_true h1]; rfl)))
  have HN := Aside0.mk h0
  have HM := Aside0.mk h1
  clear ht hv hd h0 h1
  have hb3 : (d.toList = s.toList) = (b = true) := by rw [← hb]; exact propext beq_iff_eq.symm
  have hb2 : (d.toList != s.toList) = !b := by rw [← hb]; rfl
  go_enter Tryd.func11, Tryd.ntmps11
  cases b
  all_goals
    go_wp2_with (first
      | (go_at_call 21; refine (Tryd.strconv_Atoi_ok s hs v HV.out _).mono ?_; rintro e w1 ⟨rfl, hb_⟩; have HB := Aside0.mk (below_atoi hb_); clear hb_)
      | (go_at_call 22; refine (impl_within.calls v 0 1000000000 true _ HW.out).mono ?_; rintro e w' ⟨rfl, ⟨nd, rfl⟩⟩)
      | (go_at_call 19; refine (impl_Decimal.calls v (by have := HN.out; omega) (by have := HM.out; omega) _ (HT.out.below (pw_below_drewN HB.out _))).mono ?_; rintro e w2 ⟨rfl, hb_⟩; rw [← HD.out]; have HB2 := Aside0.mk (below_step (pw_below_drewN HB.out _) hb_); clear hb_))
    go_ret2
    exact ⟨by first | rfl | simp, HB2.out⟩
/-- What the program's ReadDecimal tells. -/
theorem impl_ReadDecimal.calls (s : ByteArray) (hs : s.size ≤ 281474976710656) (w : World) (ht : Tab w) (tp tq : TypeId) (p q : Value) (e1 : w.var? Tryd.prog "strconv.ErrSyntax" = some #[.iface tp p]) (e2 : w.var? Tryd.prog "strconv.ErrRange" = some #[.iface tq q]) (r1 : Int) (r2 : Bool) (h : c_read s = (r1, r2)) :
    Calls Tryd.prog 11 #[.string s] w fun e w' => e = .returned (.tuple #[.int .i64 r1, .bool r2]) ∧ Below w.heap.size w w' := by
  cases ha : Lib.atoiAll s.data.toList with
  | ok v =>
    rw [c_read_ok ha] at h
    by_cases hn : (decide (0 ≤ v) && decide (v ≤ 1000000000)) = true
    · have hb : 0 ≤ v ∧ v ≤ 1000000000 := by simpa using hn
      refine (impl_ReadDecimal.near s (by omega) w ht v ha hb.1 hb.2 ⟨(Lib.itoa v).toArray⟩ rfl _ rfl).mono ?_
      rintro e w' ⟨rfl, hw⟩
      refine ⟨?_, hw⟩
      by_cases hi : Lib.itoa v = s.data.toList
      · rw [if_pos ⟨hb, hi⟩] at h
        have : ((⟨(Lib.itoa v).toArray⟩ : ByteArray).toList == s.toList) = true := by rw [beq_iff_eq, ByteArray.toList_eq, ByteArray.toList_eq]; simpa using hi
        have x := Prod.mk.inj h
        rw [this, if_pos rfl, ← x.1, ← x.2]
      · rw [if_neg (fun x => hi x.2)] at h
        obtain ⟨rfl, rfl⟩ := h
        have : ((⟨(Lib.itoa v).toArray⟩ : ByteArray).toList == s.toList) = false := by rw [beq_eq_false_iff_ne, ByteArray.toList_eq, ByteArray.toList_eq]; simpa using hi
        rw [this, if_neg (by decide)]
    · rw [if_neg (fun x => hn (by simpa using x.1))] at h
      obtain ⟨rfl, rfl⟩ := h
      exact impl_ReadDecimal.far s (by omega) w v ha (by simpa using hn)
  | range =>
    have h2 : c_read s = (0, false) := by unfold c_read; rw [ha]
    obtain ⟨rfl, rfl⟩ := h2.symm.trans h
    exact impl_ReadDecimal.none s w _ ((Any.strconv_Atoi_range_var Tryd.laysC172 s hs ha tq q w e2).mono fun e w' ⟨N_, x1, x2, x3, x4⟩ => ⟨N_, x1, x4⟩)
  | _ =>
    have h2 : c_read s = (0, false) := by unfold c_read; rw [ha]
    obtain ⟨rfl, rfl⟩ := h2.symm.trans h
    exact impl_ReadDecimal.none s w _ ((Any.strconv_Atoi_syntax_var Tryd.laysC172 s hs ha tp p w e1).mono fun e w' ⟨N_, x1, x2, x3, x4⟩ => ⟨N_, x1, x4⟩)
set_option maxHeartbeats 8000000 in
set_option maxRecDepth 100000 in
theorem laws_FnExactReadDecimal.calls (k : Nat) (s : ByteArray) (hs : s.size ≤ 281474976710656) (w : World) (ht : Tab w) (tp tq : TypeId) (p q : Value) (e1 : w.var? Tryd.prog "strconv.ErrSyntax" = some #[.iface tp p]) (e2 : w.var? Tryd.prog "strconv.ErrRange" = some #[.iface tq q]) (hk : spec_ReadDecimal.f k s = some (c_read s)) :
    Calls Tryd.prog 4 #[.string s] w fun e w' => e = .returned (.bool true) ∧ Below w.heap.size w w' := by
  obtain ⟨r1, r2, hr⟩ : ∃ r1 r2, c_read s = (r1, r2) := ⟨_, _, rfl⟩
  rw [hr] at hk
  have HS := Aside0.mk hk
  have HI := Aside0.mk (fun (w1 : World) (hb : Below w.heap.size w w1) => impl_ReadDecimal.calls s hs w1 (ht.below hb) tp tq p q (Go.var?_below hb syn_named (syn_lt e1) e1) (Go.var?_below hb rng_named (rng_lt e2) e2) r1 r2 hr)
  clear hk ht e1 e2 hr
  by_cases hb : (s.size : Int) > 1048576
  · have hb1 : decide ((s.size : Int) > 1048576) = true := decide_eq_true hb
    go_enter Tryd.func4, Tryd.ntmps4
    go_wp2
    go_ret
    exact ⟨rfl, Below.refl _ _⟩
  · have hb1 : decide ((s.size : Int) > 1048576) = false := decide_eq_false hb
    go_enter Tryd.func4, Tryd.ntmps4
    go_wp2_with (first
      | (go_at_call 10; refine (spec_ReadDecimal.calls k s r1 r2 _ HS.out).mono ?_; rintro e w1 ⟨rfl, hb_⟩; have HB := Aside0.mk hb_; clear hb_)
      | (go_at_call 11; refine (HI.out _ HB.out).mono ?_; rintro e w2 ⟨rfl, hb_⟩; have HB2 := Aside0.mk (below_step HB.out hb_); clear hb_))
    go_ret
    exact ⟨rfl, HB2.out⟩
end Go.Proofs.YteehopjgmgelnabDoor.PFnExactReadDecimal
