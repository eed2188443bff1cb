/- What the walk of FnTraps uses: a region's order, fixed or open, by the same steps; what a statement 'box, box, box = StepCpu(..)' holds while its order is open. Own work for this claim. -/
import Derived.Test.YteehopjgmgelnaaMFnTrapsx0
import Derived.Test.YteehopjgmgelnaaMFnTrapsx1
namespace Go.Proofs.Yteehopjgmgelnaa.PFnTraps
open Go.RowKit Go.Proofs.YteehopjgmgelnaaW.PrintWords Go.Proofs.YteehopjgmgelnaaW.PrintLast Go.Proofs.YteehopjgmgelnaaW.PrintMore
set_option linter.unusedVariables false
set_option linter.unusedSimpArgs false

section
variable {P : Program} {ops : Array Oper} {Q : Exit → Act → World → Prop} {B : List Nat} {id n : Nat} {a : Act} {w : World}
theorem up_next (k : Nat) : up (fun j => decide (j < k)) k = fun j => decide (j < k + 1) := by
  funext j
  unfold up
  by_cases h : j = k
  · rw [if_pos h]; exact (decide_eq_true (by omega)).symm
  · rw [if_neg h]
    show decide (j < k) = decide (j < k + 1)
    by_cases h2 : j < k
    · rw [decide_eq_true h2, decide_eq_true (by omega)]
    · rw [decide_eq_false h2, decide_eq_false (by omega)]
/-- A region of fixed order by the steps of one relation. -/
theorem seq_inv (O : List Nat) (I : (Nat → Bool) → Act → World → Prop)
    (hn : ops.size = n) (hO : O = List.range n) (hB : ((List.range n).all fun d => (List.range n).all fun j => !(B.getD d 0).testBit j || decide (j < d)) = true)
    (h0 : I (fun _ => false) a w) (hs : ∀ i ∈ O, StepAt P ops Q B O I i)
    (hend : ∀ b a w, (∀ j, O.contains j = true → b j = true) → I b a w → Q .normal a w) : (Code.region id ops false).wp P Q a w := by
  subst hO
  have hBB : ∀ d j, d < n → j < n → (B.getD d 0).testBit j = true → j < d := by
    intro d j hd hj ht
    have h1 := List.all_eq_true.1 (List.all_eq_true.1 hB d (List.mem_range.2 hd)) j (List.mem_range.2 hj)
    rw [ht] at h1
    simpa using h1
  have key : ∀ m k a w, k + m = n → I (fun j => decide (j < k)) a w → wpOps P ops Q (List.range' k m) a w := by
    intro m
    induction m with
    | zero =>
      intro k a w hk hI
      exact hend _ a w (fun j hj => by
        have hj2 : j < n := List.mem_range.1 (List.contains_iff_mem.1 hj)
        exact decide_eq_true (by omega)) hI
    | succ m ih =>
      intro k a w hk hI
      have hk' : k < n := by omega
      obtain ⟨oi, hoi, hK⟩ := hs k (List.mem_range.2 hk') _ a w hI (decide_eq_false (by omega)) (fun j hj => by
        rw [Bool.and_eq_true] at hj
        exact decide_eq_true (hBB k j hk' (List.mem_range.1 (List.contains_iff_mem.1 hj.1)) hj.2)) (fun d hd => by
        rw [Bool.and_eq_true] at hd
        have := hBB d k (List.mem_range.1 (List.contains_iff_mem.1 hd.1)) hk' hd.2
        exact decide_eq_false (by omega))
      have h1 := hK (wpOps P ops Q (List.range' (k + 1) m)) (show Shut _ from fun a' w' hI' => ih (k + 1) a' w' (by omega) (by rw [← up_next]; exact hI'))
      rw [List.range'_succ]
      unfold wpOps
      simp only [hoi]
      by_cases hw : Region.wanted oi (yielded ops a.tmps) = true
      · rw [if_pos hw] at h1 ⊢
        exact .inl h1
      · rw [if_neg hw] at h1 ⊢
        exact h1
  refine wp_region ?_
  rw [hn, List.range_eq_range']
  exact key n 0 a w (by omega) (by
    have : (fun j => decide (j < 0)) = fun _ => false := by funext j; exact decide_eq_false (by omega)
    rw [this]; exact h0)
/-- A region of open order. -/
theorem any_inv (O : List Nat) (I : (Nat → Bool) → Act → World → Prop) (hm : P.follows .mixedOrders = true) (hn : ops.size = n)
    (hw : waitsOk (rtab .any ops).2 B = true) (hk : baseOk (rtab .any ops).2 O = true) (hl : (lof (rtab .any ops).2.length O (fun _ => false) == List.replicate n false && O.length == n) = true)
    (h0 : I (fun _ => false) a w.drew) (hs : ∀ i ∈ O, StepAt P ops Q B O I i)
    (hend : ∀ b a w, (∀ j, O.contains j = true → b j = true) → I b a w → Q .normal a w) : (Code.region id ops true).wp P Q a w := by
  refine start_ (n := n) (S := fun _ => True) (ds := []) (Array.replicate n false) hm hn rfl trivial (fun _ => ?_)
  exact inv_ O I rfl hw hk (by simpa using hl) h0 hs hend
end

/-- What holds at each statement: p's row, the arena's box, the region's box. -/
structure Bs (a : Act) (w : World) (p ar : List Int) (gp cp : Nat) (A : Option Addr) (cA : Nat) (gA gR : Nat) : Prop where
  sz : a.tmps.size = 124
  df : a.defers = []
  sp : a.tmps[3]? = some (.slice (some ⟨gp, 0, none⟩) p.length cp)
  sa : a.tmps[4]? = some (.pointer (some ⟨gA, 0, none⟩))
  sr : a.tmps[5]? = some (.pointer (some ⟨gR, 0, none⟩))
  hp : Kd.R (Kd.int .i64) 3 w 0 (fun _ => True) (.slice (some ⟨gp, 0, none⟩) p.length cp) p
  ha : Kd.R (Kd.int .i64) 3 w 0 (fun _ => True) (.slice A ar.length cA) ar
  bA : w.heap[gA]? = some (.cells #[.slice A ar.length cA] 29 (0, 0))
  bR : w.heap[gR]? = some (.cells #[.int .i64 0, .int .i64 4] 32 (0, 0))
theorem Bs.on {a a' : Act} {w w' : World} {p ar : List Int} {gp cp : Nat} {A : Option Addr} {cA gA gR : Nat} (h : Bs a w p ar gp cp A cA gA gR) (hb : Below w.heap.size w w') (hz : a'.tmps.size = a.tmps.size) (hd : a'.defers = a.defers) (h3 : a'.tmps[3]? = a.tmps[3]?) (h4 : a'.tmps[4]? = a.tmps[4]?) (h5 : a'.tmps[5]? = a.tmps[5]?) : Bs a' w' p ar gp cp A cA gA gR :=
  ⟨hz.trans h.sz, hd.trans h.df, h3.trans h.sp, h4.trans h.sa, h5.trans h.sr, Kd.R_below h.hp hb, Kd.R_below h.ha hb, blk_below h.bA hb, blk_below h.bR hb⟩
/-- A number of p. -/
theorem Bs.at_ {a : Act} {w w' : World} {p ar : List Int} {gp cp : Nat} {A : Option Addr} {cA gA gR : Nat} (h : Bs a w p ar gp cp A cA gA gR) (hb : Below w.heap.size w w') (i : Nat) (hi : i < p.length) : w'.cell? ⟨gp, i, none⟩ = some (.int .i64 (rd p i)) := by
  obtain ⟨ad, e, hc⟩ := Kd.at_int (Kd.R_reads' (Kd.R_below h.hp hb)).2.2 (i : Int) (by omega) (by omega)
  injection e with e
  subst e
  have e2 : (⟨gp, 0, none⟩ : Addr).add ((i : Int).toNat) = ⟨gp, i, none⟩ := by
    unfold Addr.add
    split
    · rename_i h0
      have : i = 0 := by omega
      subst this
      rfl
    · simp
  rw [e2] at hc
  exact hc

/-- A statement 'box, box, box = StepCpu(..)' while its order is open: j the code's row, c the call, m its copy, e0 .. e2 the three results, b0 .. b2 the boxes, s0 .. s2 the stores. -/
structure RB (w0 : World) (l1 : List S64) (r1 : Int) (r2 : List Int) (r4 r5 r6 r7 : Int) (j c m e0 e1 e2 b0 b1 b2 s0 s1 s2 : Bool) (vj vc vm x0 x1 x2 v1 v2 : Value) (g0 g1 g2 : Nat) (w : World) : Prop where
  hb : Below w0.heap.size w0 w
  hj : j = true → c = false → Kd.R k64 64 w 0 (fun _ => True) vj l1
  hr : c = true → Kd.R (Kd.int .i64) 3 w 0 (fun _ => True) v1 r2
  hv : c = true → ∃ A n cap, v2 = .slice A n cap
  hc : c = true → vc = .tuple #[.agg #[.int .i64 r1, v1], .agg #[v2], .agg #[.int .i64 r4, .int .i64 r5, .int .i64 r6, .int .i64 r7]]
  hm : m = true → vm = .tuple #[.agg #[.int .i64 r1, v1], .agg #[v2], .agg #[.int .i64 r4, .int .i64 r5, .int .i64 r6, .int .i64 r7]]
  h0 : e0 = true → x0 = .agg #[.int .i64 r1, v1]
  h1 : e1 = true → x1 = .agg #[v2]
  h2 : e2 = true → x2 = .agg #[.int .i64 r4, .int .i64 r5, .int .i64 r6, .int .i64 r7]
  k0 : b0 = true → w0.heap.size ≤ g0 ∧ w.heap[g0]? = some (.cells (if s0 = true then #[.int .i64 r1, v1] else #[.int .i64 0, .slice none 0 0]) 52 (0, 0))
  k1 : b1 = true → w0.heap.size ≤ g1 ∧ w.heap[g1]? = some (.cells (if s1 = true then #[v2] else #[.slice none 0 0]) 29 (0, 0))
  k2 : b2 = true → w0.heap.size ≤ g2 ∧ w.heap[g2]? = some (.cells (if s2 = true then #[.int .i64 r4, .int .i64 r5, .int .i64 r6, .int .i64 r7] else #[.int .i64 0, .int .i64 0, .int .i64 0, .int .i64 0]) 60 (0, 0))
section
variable {w0 : World} {l1 : List S64} {r1 : Int} {r2 : List Int} {r4 r5 r6 r7 : Int} {j c m e0 e1 e2 b0 b1 b2 s0 s1 s2 : Bool} {vj vc vm x0 x1 x2 v1 v2 : Value} {g0 g1 g2 : Nat} {w w' : World}
theorem RB.start (h : Below w0.heap.size w0 w) {v : Value} {g : Nat} : RB w0 l1 r1 r2 r4 r5 r6 r7 false false false false false false false false false false false false v v v v v v v v g g g w :=
  ⟨h, nofun, nofun, nofun, nofun, nofun, nofun, nofun, nofun, nofun, nofun, nofun⟩
theorem RB.ext (h : RB w0 l1 r1 r2 r4 r5 r6 r7 j c m e0 e1 e2 b0 b1 b2 s0 s1 s2 vj vc vm x0 x1 x2 v1 v2 g0 g1 g2 w) (hb : Below w.heap.size w w') : RB w0 l1 r1 r2 r4 r5 r6 r7 j c m e0 e1 e2 b0 b1 b2 s0 s1 s2 vj vc vm x0 x1 x2 v1 v2 g0 g1 g2 w' :=
  ⟨below_step h.hb hb, fun a b => Kd.R_below (h.hj a b) hb, fun a => Kd.R_below (h.hr a) hb, h.hv, h.hc, h.hm, h.h0, h.h1, h.h2, fun a => ⟨(h.k0 a).1, blk_below (h.k0 a).2 hb⟩, fun a => ⟨(h.k1 a).1, blk_below (h.k1 a).2 hb⟩, fun a => ⟨(h.k2 a).1, blk_below (h.k2 a).2 hb⟩⟩
theorem RB.row (h : RB w0 l1 r1 r2 r4 r5 r6 r7 j c m e0 e1 e2 b0 b1 b2 s0 s1 s2 vj vc vm x0 x1 x2 v1 v2 g0 g1 g2 w) {u : Value} (hu : Kd.R k64 64 w 0 (fun _ => True) u l1) : RB w0 l1 r1 r2 r4 r5 r6 r7 true c m e0 e1 e2 b0 b1 b2 s0 s1 s2 u vc vm x0 x1 x2 v1 v2 g0 g1 g2 w :=
  ⟨h.hb, fun _ _ => hu, h.hr, h.hv, h.hc, h.hm, h.h0, h.h1, h.h2, h.k0, h.k1, h.k2⟩
theorem RB.call (h : RB w0 l1 r1 r2 r4 r5 r6 r7 j c m e0 e1 e2 b0 b1 b2 s0 s1 s2 vj vc vm x0 x1 x2 v1 v2 g0 g1 g2 w) {u1 u2 : Value} (hm : m = false) (he0 : e0 = false) (he1 : e1 = false) (he2 : e2 = false) (hs0 : s0 = false) (hs1 : s1 = false) (h1 : Kd.R (Kd.int .i64) 3 w 0 (fun _ => True) u1 r2) (h2 : ∃ A n cap, u2 = .slice A n cap) :
    RB w0 l1 r1 r2 r4 r5 r6 r7 j true m e0 e1 e2 b0 b1 b2 s0 s1 s2 vj (.tuple #[.agg #[.int .i64 r1, u1], .agg #[u2], .agg #[.int .i64 r4, .int .i64 r5, .int .i64 r6, .int .i64 r7]]) vm x0 x1 x2 u1 u2 g0 g1 g2 w := by
  subst hm he0 he1 he2 hs0 hs1
  exact ⟨h.hb, nofun, fun _ => h1, fun _ => h2, fun _ => rfl, nofun, nofun, nofun, nofun, h.k0, h.k1, h.k2⟩
theorem RB.move (h : RB w0 l1 r1 r2 r4 r5 r6 r7 j c m e0 e1 e2 b0 b1 b2 s0 s1 s2 vj vc vm x0 x1 x2 v1 v2 g0 g1 g2 w) : RB w0 l1 r1 r2 r4 r5 r6 r7 j c true e0 e1 e2 b0 b1 b2 s0 s1 s2 vj vc (.tuple #[.agg #[.int .i64 r1, v1], .agg #[v2], .agg #[.int .i64 r4, .int .i64 r5, .int .i64 r6, .int .i64 r7]]) x0 x1 x2 v1 v2 g0 g1 g2 w :=
  ⟨h.hb, h.hj, h.hr, h.hv, h.hc, fun _ => rfl, h.h0, h.h1, h.h2, h.k0, h.k1, h.k2⟩
theorem RB.ex0 (h : RB w0 l1 r1 r2 r4 r5 r6 r7 j c m e0 e1 e2 b0 b1 b2 s0 s1 s2 vj vc vm x0 x1 x2 v1 v2 g0 g1 g2 w) : RB w0 l1 r1 r2 r4 r5 r6 r7 j c m true e1 e2 b0 b1 b2 s0 s1 s2 vj vc vm (.agg #[.int .i64 r1, v1]) x1 x2 v1 v2 g0 g1 g2 w :=
  ⟨h.hb, h.hj, h.hr, h.hv, h.hc, h.hm, fun _ => rfl, h.h1, h.h2, h.k0, h.k1, h.k2⟩
theorem RB.ex1 (h : RB w0 l1 r1 r2 r4 r5 r6 r7 j c m e0 e1 e2 b0 b1 b2 s0 s1 s2 vj vc vm x0 x1 x2 v1 v2 g0 g1 g2 w) : RB w0 l1 r1 r2 r4 r5 r6 r7 j c m e0 true e2 b0 b1 b2 s0 s1 s2 vj vc vm x0 (.agg #[v2]) x2 v1 v2 g0 g1 g2 w :=
  ⟨h.hb, h.hj, h.hr, h.hv, h.hc, h.hm, h.h0, fun _ => rfl, h.h2, h.k0, h.k1, h.k2⟩
theorem RB.ex2 (h : RB w0 l1 r1 r2 r4 r5 r6 r7 j c m e0 e1 e2 b0 b1 b2 s0 s1 s2 vj vc vm x0 x1 x2 v1 v2 g0 g1 g2 w) : RB w0 l1 r1 r2 r4 r5 r6 r7 j c m e0 e1 true b0 b1 b2 s0 s1 s2 vj vc vm x0 x1 (.agg #[.int .i64 r4, .int .i64 r5, .int .i64 r6, .int .i64 r7]) v1 v2 g0 g1 g2 w :=
  ⟨h.hb, h.hj, h.hr, h.hv, h.hc, h.hm, h.h0, h.h1, fun _ => rfl, h.k0, h.k1, h.k2⟩
theorem RB.box0 (h : RB w0 l1 r1 r2 r4 r5 r6 r7 j c m e0 e1 e2 b0 b1 b2 s0 s1 s2 vj vc vm x0 x1 x2 v1 v2 g0 g1 g2 w) {g : Nat} (hs : s0 = false) (hg : g = w.heap.size) (hx : w'.heap[g]? = some (.cells #[.int .i64 0, .slice none 0 0] 52 (0, 0))) (hb : Below w.heap.size w w') : RB w0 l1 r1 r2 r4 r5 r6 r7 j c m e0 e1 e2 true b1 b2 s0 s1 s2 vj vc vm x0 x1 x2 v1 v2 g g1 g2 w' := by
  have h' := h.ext hb
  subst hs
  exact ⟨h'.hb, h'.hj, h'.hr, h'.hv, h'.hc, h'.hm, h'.h0, h'.h1, h'.h2, fun _ => ⟨by rw [hg]; exact h.hb.size, hx⟩, h'.k1, h'.k2⟩
theorem RB.box1 (h : RB w0 l1 r1 r2 r4 r5 r6 r7 j c m e0 e1 e2 b0 b1 b2 s0 s1 s2 vj vc vm x0 x1 x2 v1 v2 g0 g1 g2 w) {g : Nat} (hs : s1 = false) (hg : g = w.heap.size) (hx : w'.heap[g]? = some (.cells #[.slice none 0 0] 29 (0, 0))) (hb : Below w.heap.size w w') : RB w0 l1 r1 r2 r4 r5 r6 r7 j c m e0 e1 e2 b0 true b2 s0 s1 s2 vj vc vm x0 x1 x2 v1 v2 g0 g g2 w' := by
  have h' := h.ext hb
  subst hs
  exact ⟨h'.hb, h'.hj, h'.hr, h'.hv, h'.hc, h'.hm, h'.h0, h'.h1, h'.h2, h'.k0, fun _ => ⟨by rw [hg]; exact h.hb.size, hx⟩, h'.k2⟩
theorem RB.box2 (h : RB w0 l1 r1 r2 r4 r5 r6 r7 j c m e0 e1 e2 b0 b1 b2 s0 s1 s2 vj vc vm x0 x1 x2 v1 v2 g0 g1 g2 w) {g : Nat} (hs : s2 = false) (hg : g = w.heap.size) (hx : w'.heap[g]? = some (.cells #[.int .i64 0, .int .i64 0, .int .i64 0, .int .i64 0] 60 (0, 0))) (hb : Below w.heap.size w w') : RB w0 l1 r1 r2 r4 r5 r6 r7 j c m e0 e1 e2 b0 b1 true s0 s1 s2 vj vc vm x0 x1 x2 v1 v2 g0 g1 g w' := by
  have h' := h.ext hb
  subst hs
  exact ⟨h'.hb, h'.hj, h'.hr, h'.hv, h'.hc, h'.hm, h'.h0, h'.h1, h'.h2, h'.k0, h'.k1, fun _ => ⟨by rw [hg]; exact h.hb.size, hx⟩⟩
/-- A store into a box: what other blocks hold stays. -/
theorem RB.far {g t : Nat} {cs : Array Value} {i : Nat} {u : Value} {v : Value} {xs : List Int} (h : Kd.R (Kd.int .i64) 3 w 0 (fun _ => True) v xs) (hx : w.heap[g]? = some (.cells cs t (0, 0))) (ht : ∀ q, q ∈ 3 :: (Kd.int .i64).E → q ≠ t) : Kd.R (Kd.int .i64) 3 (w.setCell ⟨g, i, none⟩ u) 0 (fun _ => True) v xs :=
  Kd.R_mono (Kd.R_far (p := ⟨g, i, none⟩) (Kd.R_types h hx ht) (fun _ hk => hk.2) u) (fun _ _ => trivial)
theorem RB.put0 (h : RB w0 l1 r1 r2 r4 r5 r6 r7 j true m e0 e1 e2 true true true false s1 s2 vj vc vm x0 x1 x2 v1 v2 g0 g1 g2 w) : RB w0 l1 r1 r2 r4 r5 r6 r7 j true m e0 e1 e2 true true true true s1 s2 vj vc vm x0 x1 x2 v1 v2 g0 g1 g2 ((w.setCell ⟨g0, 0, none⟩ (.int .i64 r1)).setCell ⟨g0, 1, none⟩ v1) := by
  obtain ⟨ga, ka⟩ := h.k0 rfl
  obtain ⟨gb, kb⟩ := h.k1 rfl
  obtain ⟨gc, kc⟩ := h.k2 rfl
  have n1 : g1 ≠ g0 := blk_ne kb ka (by decide)
  have n2 : g2 ≠ g0 := blk_ne kc ka (by decide)
  have ka1 := blk_put ka 0 (.int .i64 r1) rfl
  refine ⟨below_set (below_set h.hb ga) ga, nofun, fun _ => RB.far (RB.far (h.hr rfl) ka (by decide)) ka1 (by decide), h.hv, h.hc, h.hm, h.h0, h.h1, h.h2, fun _ => ⟨ga, blk_put ka1 1 v1 rfl⟩, fun _ => ⟨gb, blk_far (blk_far kb n1 _) n1 _⟩, fun _ => ⟨gc, blk_far (blk_far kc n2 _) n2 _⟩⟩
theorem RB.put1 (h : RB w0 l1 r1 r2 r4 r5 r6 r7 j true m e0 e1 e2 true true true s0 false s2 vj vc vm x0 x1 x2 v1 v2 g0 g1 g2 w) : RB w0 l1 r1 r2 r4 r5 r6 r7 j true m e0 e1 e2 true true true s0 true s2 vj vc vm x0 x1 x2 v1 v2 g0 g1 g2 (w.setCell ⟨g1, 0, none⟩ v2) := by
  obtain ⟨ga, ka⟩ := h.k0 rfl
  obtain ⟨gb, kb⟩ := h.k1 rfl
  obtain ⟨gc, kc⟩ := h.k2 rfl
  have n1 : g0 ≠ g1 := blk_ne ka kb (by decide)
  have n2 : g2 ≠ g1 := blk_ne kc kb (by decide)
  exact ⟨below_set h.hb gb, nofun, fun _ => RB.far (h.hr rfl) kb (by decide), h.hv, h.hc, h.hm, h.h0, h.h1, h.h2, fun _ => ⟨ga, blk_far ka n1 _⟩, fun _ => ⟨gb, blk_put kb 0 v2 rfl⟩, fun _ => ⟨gc, blk_far kc n2 _⟩⟩
theorem RB.put2 (h : RB w0 l1 r1 r2 r4 r5 r6 r7 j true m e0 e1 e2 true true true s0 s1 false vj vc vm x0 x1 x2 v1 v2 g0 g1 g2 w) : RB w0 l1 r1 r2 r4 r5 r6 r7 j true m e0 e1 e2 true true true s0 s1 true vj vc vm x0 x1 x2 v1 v2 g0 g1 g2 ((((w.setCell ⟨g2, 0, none⟩ (.int .i64 r4)).setCell ⟨g2, 1, none⟩ (.int .i64 r5)).setCell ⟨g2, 2, none⟩ (.int .i64 r6)).setCell ⟨g2, 3, none⟩ (.int .i64 r7)) := by
  obtain ⟨ga, ka⟩ := h.k0 rfl
  obtain ⟨gb, kb⟩ := h.k1 rfl
  obtain ⟨gc, kc⟩ := h.k2 rfl
  have n1 : g0 ≠ g2 := blk_ne ka kc (by decide)
  have n2 : g1 ≠ g2 := blk_ne kb kc (by decide)
  have k1 := blk_put kc 0 (.int .i64 r4) rfl
  have k2 := blk_put k1 1 (.int .i64 r5) rfl
  have k3 := blk_put k2 2 (.int .i64 r6) rfl
  exact ⟨below_set (below_set (below_set (below_set h.hb gc) gc) gc) gc, nofun, fun _ => RB.far (RB.far (RB.far (RB.far (h.hr rfl) kc (by decide)) k1 (by decide)) k2 (by decide)) k3 (by decide), h.hv, h.hc, h.hm, h.h0, h.h1, h.h2, fun _ => ⟨ga, blk_far (blk_far (blk_far (blk_far ka n1 _) n1 _) n1 _) n1 _⟩, fun _ => ⟨gb, blk_far (blk_far (blk_far (blk_far kb n2 _) n2 _) n2 _) n2 _⟩, fun _ => ⟨gc, blk_put k3 3 (.int .i64 r7) rfl⟩⟩
theorem RB.store0 (h : RB w0 l1 r1 r2 r4 r5 r6 r7 j c m e0 e1 e2 b0 b1 b2 s0 s1 s2 vj vc vm x0 x1 x2 v1 v2 g0 g1 g2 w) (h1 : c = true) (h2 : b0 = true) (h3 : b1 = true) (h4 : b2 = true) (h5 : s0 = false) : RB w0 l1 r1 r2 r4 r5 r6 r7 j c m e0 e1 e2 b0 b1 b2 true s1 s2 vj vc vm x0 x1 x2 v1 v2 g0 g1 g2 ((w.setCell ⟨g0, 0, none⟩ (.int .i64 r1)).setCell ⟨g0, 1, none⟩ v1) := by
  subst h1 h2 h3 h4 h5
  exact h.put0
theorem RB.store1 (h : RB w0 l1 r1 r2 r4 r5 r6 r7 j c m e0 e1 e2 b0 b1 b2 s0 s1 s2 vj vc vm x0 x1 x2 v1 v2 g0 g1 g2 w) (h1 : c = true) (h2 : b0 = true) (h3 : b1 = true) (h4 : b2 = true) (h5 : s1 = false) : RB w0 l1 r1 r2 r4 r5 r6 r7 j c m e0 e1 e2 b0 b1 b2 s0 true s2 vj vc vm x0 x1 x2 v1 v2 g0 g1 g2 (w.setCell ⟨g1, 0, none⟩ v2) := by
  subst h1 h2 h3 h4 h5
  exact h.put1
theorem RB.store2 (h : RB w0 l1 r1 r2 r4 r5 r6 r7 j c m e0 e1 e2 b0 b1 b2 s0 s1 s2 vj vc vm x0 x1 x2 v1 v2 g0 g1 g2 w) (h1 : c = true) (h2 : b0 = true) (h3 : b1 = true) (h4 : b2 = true) (h5 : s2 = false) : RB w0 l1 r1 r2 r4 r5 r6 r7 j c m e0 e1 e2 b0 b1 b2 s0 s1 true vj vc vm x0 x1 x2 v1 v2 g0 g1 g2 ((((w.setCell ⟨g2, 0, none⟩ (.int .i64 r4)).setCell ⟨g2, 1, none⟩ (.int .i64 r5)).setCell ⟨g2, 2, none⟩ (.int .i64 r6)).setCell ⟨g2, 3, none⟩ (.int .i64 r7)) := by
  subst h1 h2 h3 h4 h5
  exact h.put2
end
end Go.Proofs.Yteehopjgmgelnaa.PFnTraps
