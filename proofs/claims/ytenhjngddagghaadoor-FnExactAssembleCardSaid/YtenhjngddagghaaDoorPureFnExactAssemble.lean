/- Assemble of the program answers as the reference's Assemble, for every text (the law itself answers true of one of more than 2^20 bytes). -/
import Derived.Test.YtenhjngddagghaaDoorMFnExactAssemblex9
namespace Go.Proofs.YtenhjngddagghaaDoor.Pure
open Go.RowKit Go.Proofs.YtenhjngddagghaaDoor.PFnExactAssemble Go.Proofs.YtenhjngddagghaaDoorW.PrintWords Go.Proofs.YtenhjngddagghaaDoorW.PrintLast
set_option linter.unusedVariables false
set_option linter.unusedSimpArgs false

/-! ### base -/
theorem c_wrap {n : Int} (h0 : -9223372036854775808 ≤ n) (h1 : n ≤ 9223372036854775807) : wrap64 n = n := by unfold wrap64; omega
theorem c_wf {n : Int} (h : (Lit.int .i64 n).wf = true) : -9223372036854775808 ≤ n ∧ n ≤ 9223372036854775807 := by
  simpa [Lit.wf, IntKind.min, IntKind.max, IntKind.signed, IntKind.bits] using h
theorem c_wf32 {n : Int} (h : (Lit.int .u32 n).wf = true) : 0 ≤ n ∧ n ≤ 4294967295 := by
  simpa [Lit.wf, IntKind.min, IntKind.max, IntKind.signed, IntKind.bits] using h
theorem c_up {k : Nat} (h : 0 < k) : ∃ m, k = m + 1 := ⟨k - 1, by omega⟩

/-! ### ints -/
theorem c_rd {l : List Int} {i : Nat} (h : i < l.length) : rd l (i : Int) = l[i]'h := by
  unfold rd
  simp [h]
theorem c_rd_app (pre : List Int) (a : Int) (l : List Int) : rd (pre ++ a :: l) (pre.length : Int) = a := by
  unfold rd
  simp
theorem c_inc {i n : Nat} (h : i < n) (hn : n ≤ 9223372036854775807) : wrap64 ((i : Int) + 1) = ((i + 1 : Nat) : Int) := by rw [c_wrap (by omega) (by omega)]; omega

/-! ### drop -/
theorem c_bt (s : ByteArray) (i : Nat) (h : i < s.size) : bt s (i : Int) = ((s[i]'h).toNat : Int) := by
  unfold bt
  simp [h]
theorem c_drop (s : ByteArray) (i : Nat) (h : i < s.size) : ∃ b : UInt8, bt s (i : Int) = (b.toNat : Int) ∧ s.data.toList.drop i = b :: s.data.toList.drop (i + 1) := by
  refine ⟨s[i]'h, c_bt s i h, ?_⟩
  rw [List.drop_eq_getElem_cons (by rw [data_length]; exact h)]
  rfl
theorem c_drop_end (s : ByteArray) (i : Nat) (h : s.size ≤ i) : s.data.toList.drop i = [] := List.drop_eq_nil_of_le (by rw [data_length]; exact h)

/-! ### bytes -/
theorem c_toList (s : ByteArray) : s.toList = s.data.toList := ByteArray.toList_eq s
theorem c_extract (s : ByteArray) (a b : Nat) : (s.extract a b).data.toList = (s.data.toList.take b).drop a := by
  simp [ByteArray.data_extract, Array.toList_extract, List.extract_eq_take_drop, List.drop_take]
theorem c_ext {s t : ByteArray} (h : s.data.toList = t.data.toList) : s = t := by
  cases s; cases t; congr; exact Array.toList_inj.1 h

/-! ### within -/
def c_in (n l h : Int) : Bool := decide (l ≤ n) && decide (n ≤ h)
theorem c_in_iff {n l h : Int} : c_in n l h = true ↔ l ≤ n ∧ n ≤ h := by simp [c_in]
theorem c_in_no {n l h : Int} : ¬ c_in n l h = true ↔ n < l ∨ h < n := by rw [c_in_iff]; omega

/-! ### within_i -/
theorem c_within (n l h : Int) : impl_within.f n l h = some (c_in n l h) := by
  unfold impl_within.f c_in
  by_cases h0 : n ≥ l
  · rw [if_pos h0]; simp [h0]
  · rw [if_neg h0]; simp; omega

/-! ### partsof -/
def c_words : List UInt8 → List UInt8 → List (List UInt8)
  | cur, [] => if cur = [] then [] else [cur]
  | cur, c :: t => if c = 32 then (if cur = [] then c_words [] t else cur :: c_words [] t) else c_words (cur ++ [c]) t
def c_mk (l : List UInt8) : ByteArray := ⟨l.toArray⟩
theorem c_mk_data (l : List UInt8) : (c_mk l).data.toList = l := by simp [c_mk]
theorem c_mk_of (s : ByteArray) : c_mk s.data.toList = s := c_ext (c_mk_data _)
def c_fine (l : List UInt8) : Bool := l.all fun c => decide (32 ≤ c.toNat ∧ c.toNat ≤ 126)
theorem c_fine_cons (c : UInt8) (l : List UInt8) : c_fine (c :: l) = (decide (32 ≤ c.toNat ∧ c.toNat ≤ 126) && c_fine l) := rfl
def c_fin (l : List ByteArray) : List ByteArray × Bool := if (l.length : Int) > 10 then ([], false) else (l, true)
def c_out (b : Bool) (l : List ByteArray) : List ByteArray × Bool := if b = false then ([], false) else c_fin l
def c_parts (s : ByteArray) : List ByteArray × Bool := if (s.size : Int) > 600 then ([], false) else c_out (c_fine s.data.toList) ((c_words [] s.data.toList).map c_mk)
theorem c_out_true (l : List ByteArray) : c_out true l = c_fin l := rfl
theorem c_fin_some (l : List ByteArray) : (if (l.length : Int) > 10 then some (([] : List ByteArray), false) else some (l, true)) = some (c_fin l) := by
  unfold c_fin
  by_cases h : (l.length : Int) > 10
  · rw [if_pos h, if_pos h]
  · rw [if_neg h, if_neg h]
theorem c_toNat32 {c : UInt8} : c.toNat = 32 ↔ c = 32 := by
  constructor
  · intro h; exact UInt8.toNat_inj.1 h
  · intro h; subst h; rfl
theorem c_partsl_spec (s : ByteArray) (hs : s.size ≤ 600) (d : Nat) : ∀ (k b i : Nat) (acc : List ByteArray), s.size - i = d → i ≤ s.size → b ≤ i → acc.length ≤ i → 3 * d + 4 ≤ k →
    spec_PartsOf.l0 k s acc b i = some (c_out (c_fine (s.data.toList.drop i)) (acc ++ (c_words ((s.data.toList.take i).drop b) (s.data.toList.drop i)).map c_mk)) := by
  have hlen : s.data.toList.length = s.size := data_length s
  induction d with
  | zero =>
    intro k b i acc hd hi hb ha hk
    obtain ⟨k, rfl⟩ : ∃ m, k = m + 4 := ⟨k - 4, by omega⟩
    have he : i = s.size := by omega
    rw [spec_PartsOf.l0, if_pos (by omega), if_neg (by omega), spec_PartsOf.j1, if_neg (by decide), if_neg (by omega), spec_PartsOf.j2, if_neg (by decide), c_drop_end s i (by omega)]
    have hf : c_fine [] = true := rfl
    rw [hf, c_out_true, c_words]
    by_cases h : b < i
    · have hne : ¬ (s.data.toList.take i).drop b = [] := by
        intro e
        have := congrArg List.length e
        rw [List.length_drop, List.length_take, hlen, List.length_nil] at this
        omega
      rw [if_pos (by omega), if_pos (by omega), if_pos (by omega), if_pos (by omega), if_pos (by omega), c_inc (n := 9223372036854775807) (by omega) (by omega), spec_PartsOf.l0, if_neg (by omega), if_neg hne]
      have hx : s.extract ((b : Int)).toNat ((i : Int)).toNat = c_mk ((s.data.toList.take i).drop b) := c_ext (by rw [c_extract, c_mk_data, Int.toNat_natCast, Int.toNat_natCast])
      rw [hx]
      exact c_fin_some _
    · have hbi : b = i := by omega
      have hne : (s.data.toList.take i).drop b = [] := List.drop_eq_nil_of_le (by rw [List.length_take, hlen]; omega)
      rw [if_neg (by omega), c_inc (n := 9223372036854775807) (by omega) (by omega), spec_PartsOf.l0, if_neg (by omega), if_pos hne, List.map_nil, List.append_nil]
      exact c_fin_some _
  | succ d ih =>
    intro k b i acc hd hi hb ha hk
    obtain ⟨k, rfl⟩ : ∃ m, k = m + 3 := ⟨k - 3, by omega⟩
    obtain ⟨c, hc, hdr⟩ := c_drop s i (by omega)
    have hcb := c.toNat_lt
    rw [spec_PartsOf.l0, if_pos (by omega), if_pos (by omega), if_pos (by omega), hc, hdr, c_fine_cons]
    by_cases h1 : (c.toNat : Int) < 32
    · rw [if_pos h1, spec_PartsOf.j1, if_pos rfl]
      have : decide (32 ≤ c.toNat ∧ c.toNat ≤ 126) = false := decide_eq_false (by omega)
      rw [this]
      rfl
    · rw [if_neg h1]
      by_cases h2 : (c.toNat : Int) > 126
      · rw [spec_PartsOf.j1, if_pos (decide_eq_true h2)]
        have : decide (32 ≤ c.toNat ∧ c.toNat ≤ 126) = false := decide_eq_false (by omega)
        rw [this]
        rfl
      · have h12 : decide (32 ≤ c.toNat ∧ c.toNat ≤ 126) = true := decide_eq_true (by omega)
        rw [spec_PartsOf.j1, if_neg (by rw [decide_eq_false h2]; decide), if_pos (by omega), if_pos (by omega), spec_PartsOf.j2, hc, h12, Bool.true_and, c_words]
        by_cases h3 : c = 32
        · have h3n := c_toNat32.2 h3
          have hn : ((c.toNat : Int) != 32) = false := bne_eq_false_iff_eq.2 (by omega)
          have hcur : (s.data.toList.take (i + 1)).drop (i + 1) = [] := List.drop_eq_nil_of_le (by rw [List.length_take, hlen]; omega)
          rw [hn, if_neg (by decide), if_pos h3]
          by_cases h : b < i
          · have hne : ¬ (s.data.toList.take i).drop b = [] := by
              intro e
              have := congrArg List.length e
              rw [List.length_drop, List.length_take, hlen, List.length_nil] at this
              omega
            have hx : s.extract ((b : Int)).toNat ((i : Int)).toNat = c_mk ((s.data.toList.take i).drop b) := c_ext (by rw [c_extract, c_mk_data, Int.toNat_natCast, Int.toNat_natCast])
            rw [if_pos (by omega), if_pos (by omega), if_pos (by omega), if_pos (by omega), if_pos (by omega), c_inc (n := 9223372036854775807) (by omega) (by omega), if_neg hne, hx,
              ih k (i + 1) (i + 1) _ (by omega) (by omega) (by omega) (by rw [List.length_append]; simp; omega) (by omega), hcur]
            simp
          · have hne : (s.data.toList.take i).drop b = [] := List.drop_eq_nil_of_le (by rw [List.length_take, hlen]; omega)
            rw [if_neg (by omega), c_inc (n := 9223372036854775807) (by omega) (by omega), if_pos hne, ih k (i + 1) (i + 1) _ (by omega) (by omega) (by omega) (by omega) (by omega), hcur]
        · have hn : ((c.toNat : Int) != 32) = true := bne_iff_ne.2 (fun e => h3 (c_toNat32.1 (by omega)))
          have hcur : (s.data.toList.take (i + 1)).drop b = (s.data.toList.take i).drop b ++ [c] := by
            have hget : s.data.toList[i]? = some c := by
              have := congrArg List.head? hdr
              rwa [List.head?_drop, List.head?_cons] at this
            rw [List.take_add_one, hget, Option.toList_some, List.drop_append_of_le_length (by rw [List.length_take, hlen]; omega)]
          rw [hn, if_pos rfl, c_inc (n := 9223372036854775807) (by omega) (by omega), if_neg h3, ih k b (i + 1) acc (by omega) (by omega) (by omega) (by omega) (by omega), hcur]
theorem c_parts_spec (s : ByteArray) (k : Nat) (hk : 2000 ≤ k) : spec_PartsOf.f k s = some (c_parts s) := by
  unfold spec_PartsOf.f c_parts
  rw [Option.bind_some]
  by_cases h : (s.size : Int) > 600
  · rw [if_pos h, if_pos h]
  · rw [if_neg h, if_neg h]
    have := c_partsl_spec s (by omega) s.size k 0 0 [] rfl (by omega) (Nat.le_refl _) (by simp) (by omega)
    simpa using this
def c_full (l : List ByteArray) : List ByteArray := l.filter fun b => decide (b.data.toList ≠ [])
theorem c_full_pos (b : ByteArray) (l : List ByteArray) (h : b.data.toList ≠ []) : c_full (b :: l) = b :: c_full l := List.filter_cons_of_pos (p := fun b : ByteArray => decide (b.data.toList ≠ [])) (decide_eq_true h)
theorem c_full_neg (b : ByteArray) (l : List ByteArray) (h : b.data.toList = []) : c_full (b :: l) = c_full l := List.filter_cons_of_neg (p := fun b : ByteArray => decide (b.data.toList ≠ [])) (fun e => (of_decide_eq_true e) h)
theorem c_partsl1 (L : List ByteArray) (hL : L.length ≤ 1000) (d : Nat) : ∀ (k i : Nat) (acc : List ByteArray), L.length - i = d → i ≤ L.length → acc.length ≤ i → d + 1 ≤ k →
    impl_PartsOf.l1 k acc L (L.length : Int) i = some (c_fin (acc ++ c_full (L.drop i))) := by
  induction d with
  | zero =>
    intro k i acc hd hi ha hk
    obtain ⟨k, rfl⟩ := c_up (k := k) (by omega)
    rw [impl_PartsOf.l1, if_neg (by omega), List.drop_eq_nil_of_le (by omega)]
    have : c_full [] = [] := rfl
    rw [this, List.append_nil]
    exact c_fin_some _
  | succ d ih =>
    intro k i acc hd hi ha hk
    obtain ⟨k, rfl⟩ := c_up (k := k) (by omega)
    have hi' : i < L.length := by omega
    have hr : rdOf ByteArray.empty L (i : Int) = L[i] := by simp [rdOf, List.getD_eq_getElem?_getD, hi']
    rw [impl_PartsOf.l1, if_pos (by omega), if_pos (by omega), if_pos (by omega), hr, c_toList, c_inc (n := 9223372036854775807) (by omega) (by omega), List.drop_eq_getElem_cons hi']
    by_cases h : L[i].data.toList = []
    · rw [if_pos h, ih k (i + 1) acc (by omega) (by omega) (by omega) (by omega)]
      have : c_full (L[i] :: L.drop (i + 1)) = c_full (L.drop (i + 1)) := c_full_neg _ _ h
      rw [this]
    · rw [if_neg h, if_pos (by omega), ih k (i + 1) _ (by omega) (by omega) (by rw [List.length_append]; simp; omega) (by omega)]
      have : c_full (L[i] :: L.drop (i + 1)) = L[i] :: c_full (L.drop (i + 1)) := c_full_pos _ _ h
      rw [this, List.append_assoc]
      rfl
def c_sp : ByteArray := ⟨#[32]⟩
def c_pieces (s : ByteArray) : List ByteArray := Lib.splitB c_sp 0 (Lib.countB s c_sp) s
theorem c_pieces_len (s : ByteArray) : (c_pieces s).length ≤ s.size + 1 := by
  have h := Lib.splitB_all c_sp (by decide) 0 _ s rfl
  have hle := Lib.countB_le c_sp (by decide) s.size s (Nat.le_refl _)
  unfold c_pieces
  omega
theorem c_partsl_impl (s : ByteArray) (hs : s.size ≤ 600) (d : Nat) : ∀ (k i : Nat), s.size - i = d → i ≤ s.size → d + s.size + 10 ≤ k →
    impl_PartsOf.l0 k s [] i = some (c_out (c_fine (s.data.toList.drop i)) (c_full (c_pieces s))) := by
  induction d with
  | zero =>
    intro k i hd hi hk
    obtain ⟨k, rfl⟩ := c_up (k := k) (by omega)
    have hsp : strings_Split.f s (⟨#[32]⟩ : ByteArray) = some (c_pieces s) := by
      unfold strings_Split.f
      rw [if_pos ⟨by omega, by decide⟩]
      rfl
    have hpl := c_pieces_len s
    have h1 := c_partsl1 (c_pieces s) (by omega) (c_pieces s).length k 0 [] (by omega) (by omega) (by simp) (by omega)
    rw [impl_PartsOf.l0, if_neg (by omega), c_drop_end s i (by omega), hsp, Option.bind_some]
    simpa [c_out, c_fine] using h1
  | succ d ih =>
    intro k i hd hi hk
    obtain ⟨k, rfl⟩ := c_up (k := k) (by omega)
    obtain ⟨c, hc, hdr⟩ := c_drop s i (by omega)
    have hcb := c.toNat_lt
    rw [impl_PartsOf.l0, if_pos (by omega), if_pos (by omega), hc, c_wrap (by omega) (by omega), c_within, Option.bind_some, hdr, c_fine_cons]
    by_cases h : 32 ≤ c.toNat ∧ c.toNat ≤ 126
    · rw [if_pos (c_in_iff.2 ⟨by omega, by omega⟩), c_inc (n := 9223372036854775807) (by omega) (by omega), ih k (i + 1) (by omega) (by omega) (by omega), decide_eq_true h, Bool.true_and]
    · rw [if_neg (c_in_no.2 (by omega)), decide_eq_false h]
      rfl
theorem c_words_none : ∀ (l cur : List UInt8), (∀ (k : Nat), l[k]? ≠ some 32) → c_words cur l = if cur ++ l = [] then [] else [cur ++ l]
  | [], cur, _ => by rw [c_words, List.append_nil]
  | c :: t, cur, h => by
    have h0 : c ≠ 32 := fun e => h 0 (by rw [e]; rfl)
    rw [c_words, if_neg h0, c_words_none t (cur ++ [c]) (fun k => by simpa using h (k + 1)), List.append_assoc]
    rfl
theorem c_words_some : ∀ (l cur : List UInt8) (o : Nat), l[o]? = some 32 → (∀ (k : Nat), k < o → l[k]? ≠ some 32) → c_words cur l = if cur ++ l.take o = [] then c_words [] (l.drop (o + 1)) else (cur ++ l.take o) :: c_words [] (l.drop (o + 1))
  | [], cur, o, h, _ => by simp at h
  | c :: t, cur, 0, h, _ => by
    have h0 : c = 32 := by simpa using h
    rw [c_words, if_pos h0]
    simp
  | c :: t, cur, o + 1, h, hn => by
    have h0 : c ≠ 32 := fun e => hn 0 (by omega) (by rw [e]; rfl)
    rw [c_words, if_neg h0, c_words_some t (cur ++ [c]) o (by simpa using h) (fun k hk => by simpa using hn (k + 1) (by omega)), List.append_assoc]
    rfl
theorem c_pieces_words : ∀ (n : Nat) (s : ByteArray), s.size ≤ n → c_full (c_pieces s) = (c_words [] s.data.toList).map c_mk
  | n, s, hn => by
    have hix : Lib.indexB s c_sp = Lib.indexByte s.data.toList 32 := Lib.index_one _ _
    rcases Lib.indexB_cases s c_sp with h | ⟨i, h, hroom⟩
    · have hno := Lib.indexByte_none (hix.symm.trans h)
      rw [c_words_none _ _ hno]
      unfold c_pieces
      rw [Lib.splitB_miss _ _ _ _ h, List.nil_append]
      by_cases he : s.data.toList = []
      · rw [if_pos he]
        rw [c_full_neg _ _ he]
        rfl
      · rw [if_neg he]
        rw [c_full_pos _ _ he, List.map_cons, List.map_nil, c_mk_of]
        rfl
    · obtain ⟨h32, hfirst⟩ := Lib.indexByte_some (hix.symm.trans h)
      have hsz : c_sp.size = 1 := rfl
      rw [hsz] at hroom
      have hc := Lib.countB_hit s c_sp i (by decide) h
      have hsize : (s.extract (i + c_sp.size) s.size).size = s.size - (i + 1) := by rw [ByteArray.size_extract, hsz]; omega
      cases n with
      | zero => omega
      | succ n =>
        have ih := c_pieces_words n (s.extract (i + c_sp.size) s.size) (by omega)
        rw [c_words_some _ _ _ h32 hfirst]
        have hp : c_pieces s = s.extract 0 (i + 0) :: c_pieces (s.extract (i + c_sp.size) s.size) := by
          unfold c_pieces
          rw [hc, Nat.add_comm, Lib.splitB_hit _ _ _ _ _ h]
        have hd : (s.extract (i + c_sp.size) s.size).data.toList = s.data.toList.drop (i + 1) := by
          rw [c_extract, hsz, List.take_of_length_le (by rw [data_length]; exact Nat.le_refl _)]
        have ht : (s.extract 0 (i + 0)).data.toList = s.data.toList.take i := by rw [c_extract, List.drop_zero, Nat.add_zero]
        rw [hd] at ih
        rw [hp, List.nil_append]
        by_cases he : s.data.toList.take i = []
        · rw [if_pos he, ← ih]
          exact c_full_neg _ _ (ht.trans he)
        · rw [if_neg he, List.map_cons, ← ih]
          rw [c_full_pos _ _ (fun e => he (ht.symm.trans e)), ← ht, c_mk_of]
theorem c_parts_impl (s : ByteArray) (k : Nat) (hk : 2000 ≤ k) : impl_PartsOf.f k s = some (c_parts s) := by
  unfold impl_PartsOf.f c_parts
  by_cases h : (s.size : Int) > 600
  · rw [if_pos h, if_pos h]
  · rw [if_neg h, if_neg h, ← c_pieces_words s.size s (Nat.le_refl _)]
    have := c_partsl_impl s (by omega) s.size k 0 (by omega) (by omega) (by omega)
    simpa using this
theorem c_parts_len (s : ByteArray) : (c_parts s).1.length ≤ 10 := by
  unfold c_parts c_out c_fin
  split
  · simp
  · split
    · simp
    · split
      · simp
      · dsimp only
        omega
def c_marksL : List ByteArray := [⟨#[109, 49]⟩, ⟨#[109, 50]⟩, ⟨#[109, 51]⟩, ⟨#[109, 52]⟩, ⟨#[109, 53]⟩, ⟨#[109, 54]⟩, ⟨#[109, 55]⟩, ⟨#[109, 56]⟩, ⟨#[109, 57]⟩, ⟨#[109, 49, 48]⟩]
def c_mark (i : Nat) : ByteArray := c_marksL.getD i ByteArray.empty
def c_marks (n : Nat) : List ByteArray := (List.range n).map c_mark
theorem c_marks_len (n : Nat) : (c_marks n).length = n := by simp [c_marks]
theorem c_marks_succ (n : Nat) : c_marks (n + 1) = c_marks n ++ [c_mark n] := by simp [c_marks, List.range_succ]

/-! ### lines -/
def c_spl : List UInt8 → List UInt8 → List (List UInt8)
  | cur, [] => [cur]
  | cur, c :: t => if c = 10 then cur :: c_spl [] t else c_spl (cur ++ [c]) t
def c_lineL : List UInt8 → List UInt8 → List (List UInt8)
  | cur, [] => if cur = [] then [] else [cur]
  | cur, c :: t => if c = 10 then cur :: c_lineL [] t else c_lineL (cur ++ [c]) t
theorem c_spl_ne : ∀ (l cur : List UInt8), c_spl cur l ≠ []
  | [], cur => by rw [c_spl]; exact List.cons_ne_nil _ _
  | c :: t, cur => by
    rw [c_spl]
    split
    · exact List.cons_ne_nil _ _
    · exact c_spl_ne t _
theorem c_lineL_spl : ∀ (l cur : List UInt8), c_lineL cur l = if (c_spl cur l).getLast? = some [] then (c_spl cur l).dropLast else c_spl cur l
  | [], cur => by
    rw [c_lineL, c_spl]
    by_cases h : cur = []
    · subst h; rfl
    · rw [if_neg h, if_neg (by simpa using h)]
  | c :: t, cur => by
    rw [c_lineL, c_spl]
    by_cases hc : c = 10
    · rw [if_pos hc, if_pos hc, c_lineL_spl t []]
      have hne := c_spl_ne t []
      generalize c_spl [] t = p at hne ⊢
      cases p with
      | nil => exact absurd rfl hne
      | cons a q =>
        rw [List.getLast?_cons_cons]
        by_cases h : (a :: q).getLast? = some []
        · rw [if_pos h, if_pos h]
          rfl
        · rw [if_neg h, if_neg h]
    · rw [if_neg hc, if_neg hc]
      exact c_lineL_spl t _
theorem c_lineL_len : ∀ (l cur : List UInt8), (c_lineL cur l).length ≤ l.length + 1
  | [], cur => by
    rw [c_lineL]
    split <;> simp
  | c :: t, cur => by
    rw [c_lineL]
    split
    · have := c_lineL_len t []
      rw [List.length_cons, List.length_cons]
      omega
    · have := c_lineL_len t (cur ++ [c])
      rw [List.length_cons]
      omega
theorem c_spl_none : ∀ (l cur : List UInt8), (∀ (k : Nat), l[k]? ≠ some 10) → c_spl cur l = [cur ++ l]
  | [], cur, _ => by rw [c_spl, List.append_nil]
  | c :: t, cur, h => by
    have h0 : c ≠ 10 := fun e => h 0 (by rw [e]; rfl)
    rw [c_spl, if_neg h0, c_spl_none t (cur ++ [c]) (fun k => by simpa using h (k + 1)), List.append_assoc]
    rfl
theorem c_spl_some : ∀ (l cur : List UInt8) (o : Nat), l[o]? = some 10 → (∀ (k : Nat), k < o → l[k]? ≠ some 10) → c_spl cur l = (cur ++ l.take o) :: c_spl [] (l.drop (o + 1))
  | [], cur, o, h, _ => by simp at h
  | c :: t, cur, 0, h, _ => by
    have h0 : c = 10 := by simpa using h
    rw [c_spl, if_pos h0]
    simp
  | c :: t, cur, o + 1, h, hn => by
    have h0 : c ≠ 10 := fun e => hn 0 (by omega) (by rw [e]; rfl)
    rw [c_spl, if_neg h0, c_spl_some t (cur ++ [c]) o (by simpa using h) (fun k hk => by simpa using hn (k + 1) (by omega)), List.append_assoc]
    rfl
def c_nl : ByteArray := ⟨#[10]⟩
def c_pcs (s : ByteArray) : List ByteArray := Lib.splitB c_nl 0 (Lib.countB s c_nl) s
theorem c_pcs_spl : ∀ (n : Nat) (s : ByteArray), s.size ≤ n → c_pcs s = (c_spl [] s.data.toList).map c_mk
  | n, s, hn => by
    have hix : Lib.indexB s c_nl = Lib.indexByte s.data.toList 10 := Lib.index_one _ _
    rcases Lib.indexB_cases s c_nl with h | ⟨i, h, hroom⟩
    · have hno := Lib.indexByte_none (hix.symm.trans h)
      rw [c_spl_none _ _ hno]
      unfold c_pcs
      rw [Lib.splitB_miss _ _ _ _ h, List.nil_append, List.map_cons, List.map_nil, c_mk_of]
    · obtain ⟨h10, hfirst⟩ := Lib.indexByte_some (hix.symm.trans h)
      have hsz : c_nl.size = 1 := rfl
      rw [hsz] at hroom
      have hc := Lib.countB_hit s c_nl i (by decide) h
      have hsize : (s.extract (i + c_nl.size) s.size).size = s.size - (i + 1) := by rw [ByteArray.size_extract, hsz]; omega
      cases n with
      | zero => omega
      | succ n =>
        have ih := c_pcs_spl n (s.extract (i + c_nl.size) s.size) (by omega)
        rw [c_spl_some _ _ _ h10 hfirst]
        have hp : c_pcs s = s.extract 0 (i + 0) :: c_pcs (s.extract (i + c_nl.size) s.size) := by
          unfold c_pcs
          rw [hc, Nat.add_comm, Lib.splitB_hit _ _ _ _ _ h]
        have hd : (s.extract (i + c_nl.size) s.size).data.toList = s.data.toList.drop (i + 1) := by
          rw [c_extract, hsz, List.take_of_length_le (by rw [data_length]; exact Nat.le_refl _)]
        have ht : (s.extract 0 (i + 0)).data.toList = s.data.toList.take i := by rw [c_extract, List.drop_zero, Nat.add_zero]
        rw [hd] at ih
        rw [hp, List.nil_append, List.map_cons, ← ih, ← ht, c_mk_of]
def c_lines (s : ByteArray) : List ByteArray := (c_lineL [] s.data.toList).map c_mk
theorem c_lines_len (s : ByteArray) : (c_lines s).length ≤ s.size + 1 := by
  have := c_lineL_len s.data.toList []
  rw [data_length] at this
  unfold c_lines
  rw [List.length_map]
  exact this
theorem c_mk_nil {l : List UInt8} : c_mk l = c_mk [] ↔ l = [] := by
  constructor
  · intro h
    have := congrArg (fun b : ByteArray => b.data.toList) h
    simpa [c_mk_data] using this
  · intro h
    rw [h]
theorem c_lines_of (s : ByteArray) : c_lines s = if (c_pcs s).getLast? = some (c_mk []) then (c_pcs s).dropLast else c_pcs s := by
  unfold c_lines
  rw [c_pcs_spl s.size s (Nat.le_refl _), c_lineL_spl, List.getLast?_map]
  have hne := c_spl_ne s.data.toList []
  generalize c_spl [] s.data.toList = p at hne ⊢
  cases hp : p.getLast? with
  | none => exact absurd (List.getLast?_eq_none_iff.1 hp) hne
  | some x =>
    rw [Option.map_some]
    by_cases h : x = []
    · rw [if_pos (by rw [h]), if_pos (by rw [h]), List.map_dropLast]
    · rw [if_neg (fun e => h (Option.some.inj e)), if_neg (fun e => h (c_mk_nil.1 (Option.some.inj e)))]

/-! ### readdec -/
def c_dv (n : Nat) (l : List UInt8) : Nat := l.foldl (fun m c => 10 * m + (c.toNat - 48)) n
theorem c_dv_nil (n : Nat) : c_dv n [] = n := rfl
theorem c_dv_cons (n : Nat) (c : UInt8) (r : List UInt8) : c_dv n (c :: r) = c_dv (10 * n + (c.toNat - 48)) r := by
  unfold c_dv
  rw [List.foldl_cons]
def c_digits (l : List UInt8) : Prop := ∀ c ∈ l, 48 ≤ c.toNat ∧ c.toNat ≤ 57
theorem c_dv_app (a b : List UInt8) : ∀ n, c_dv n (a ++ b) = c_dv (c_dv n a) b := by
  induction a with
  | nil => intro n; rfl
  | cons c r ih => intro n; exact ih _
theorem c_dig (u : Nat) (h : u < 10) : (UInt8.ofNat (48 + u)).toNat = 48 + u := by
  rw [UInt8.toNat_ofNat']; omega
theorem c_dv_dec (u : Nat) : c_dv 0 (Lib.decDigits u) = u := by
  induction u using Nat.strongRecOn with
  | _ u ih =>
    rw [Lib.decDigits]
    by_cases h : u < 10
    · rw [dif_pos h]
      show 10 * 0 + ((UInt8.ofNat (48 + u)).toNat - 48) = u
      rw [c_dig u h]; omega
    · rw [dif_neg h, c_dv_app, ih (u / 10) (by omega)]
      show 10 * (u / 10) + ((UInt8.ofNat (48 + u % 10)).toNat - 48) = u
      rw [c_dig _ (by omega)]; omega
theorem c_digits_dec (u : Nat) : c_digits (Lib.decDigits u) := by
  induction u using Nat.strongRecOn with
  | _ u ih =>
    intro c hc
    rw [Lib.decDigits] at hc
    by_cases h : u < 10
    · rw [dif_pos h, List.mem_singleton] at hc
      rw [hc, c_dig u h]; omega
    · rw [dif_neg h, List.mem_append, List.mem_singleton] at hc
      rcases hc with hc | hc
      · exact ih (u / 10) (by omega) c hc
      · rw [hc, c_dig _ (by omega)]; omega
theorem c_dv_le (l : List UInt8) (hd : c_digits l) : ∀ n, c_dv n l + 1 ≤ (n + 1) * 10 ^ l.length := by
  induction l with
  | nil => intro n; rw [c_dv_nil]; simp
  | cons c r ih =>
    intro n
    have hc := hd c List.mem_cons_self
    have h := ih (fun x hx => hd x (List.mem_cons_of_mem _ hx)) (10 * n + (c.toNat - 48))
    show c_dv (10 * n + (c.toNat - 48)) r + 1 ≤ _
    rw [List.length_cons, Nat.pow_succ]
    have h2 : (10 * n + (c.toNat - 48) + 1) * 10 ^ r.length ≤ ((n + 1) * 10) * 10 ^ r.length := Nat.mul_le_mul_right _ (by omega)
    have h3 : ((n + 1) * 10) * 10 ^ r.length = (n + 1) * (10 ^ r.length * 10) := by rw [Nat.mul_assoc, Nat.mul_comm 10]
    omega
theorem c_dv_ge (l : List UInt8) : ∀ n, n ≤ c_dv n l := by
  induction l with
  | nil => intro n; exact Nat.le_refl _
  | cons x t ih =>
    intro n
    have h := ih (10 * n + (x.toNat - 48))
    rw [c_dv_cons]
    omega
/-- Figures are parsed to their value. -/
theorem c_parse (l : List UInt8) (hd : c_digits l) : ∀ n, c_dv n l < 18446744073709551616 → Lib.parseUint10 n l = .ok (c_dv n l) := by
  induction l with
  | nil => intro n _; rfl
  | cons c r ih =>
    intro n hn
    have hc := hd c List.mem_cons_self
    have hr : c_digits r := fun x hx => hd x (List.mem_cons_of_mem _ hx)
    have hge := c_dv_ge r (10 * n + (c.toNat - 48))
    rw [c_dv_cons] at hn ⊢
    rw [Lib.parseUint10, if_pos hc, if_neg (by omega), if_neg (by omega), show n * 10 + (c.toNat - 48) = 10 * n + (c.toNat - 48) by omega]
    exact ih hr _ hn
theorem c_atoi (l : List UInt8) (hd : c_digits l) (hne : l ≠ []) (hv : c_dv 0 l < 9223372036854775808) : Lib.atoiAll l = .ok (c_dv 0 l : Int) := by
  cases l with
  | nil => exact absurd rfl hne
  | cons c r =>
    have hc := hd c List.mem_cons_self
    unfold Lib.atoiAll
    simp only
    rw [if_neg (c := c.toNat = 43 ∨ c.toNat = 45) (by omega), Lib.parseMag, if_neg (by simp), c_parse _ hd 0 (by omega)]
    simp only
    rw [if_neg (by omega), if_neg (by omega), if_neg (by omega)]
/-- The numeral's own value. -/
theorem c_itoa (v : Int) (h0 : 0 ≤ v) : c_digits (Lib.itoa v) ∧ c_dv 0 (Lib.itoa v) = v.toNat ∧ Lib.itoa v ≠ [] ∧ (Lib.itoa v).length = Lib.nDigits v.toNat := by
  have e : Lib.itoa v = Lib.decDigits v.toNat := by unfold Lib.itoa; rw [if_neg (by omega)]
  rw [e]
  refine ⟨c_digits_dec _, c_dv_dec _, fun h => ?_, Lib.decDigits_length _⟩
  have h1 := congrArg List.length h
  rw [Lib.decDigits_length, List.length_nil] at h1
  have h2 := Lib.nDigits_pos v.toNat
  omega
/-- The reading in plain words: figures alone, no more than 10^9, and its own numeral. -/
theorem c_read_yes (s : ByteArray) (v : Int) (h0 : 0 ≤ v) (h1 : v ≤ 1000000000) (h : Lib.itoa v = s.data.toList) : c_read s = (v, true) := by
  obtain ⟨a, b, c, _⟩ := c_itoa v h0
  have ha : Lib.atoiAll s.data.toList = .ok v := by
    rw [← h, c_atoi _ a c (by rw [b]; omega), b]
    congr 1
    omega
  rw [c_read_ok ha, if_pos ⟨⟨h0, h1⟩, h⟩]
theorem c_read_no (s : ByteArray) (h : ∀ v : Int, 0 ≤ v → v ≤ 1000000000 → Lib.itoa v ≠ s.data.toList) : c_read s = (0, false) := by
  unfold c_read
  split
  · rename_i v _
    rw [if_neg (fun x => h v x.1.1 x.1.2 x.2)]
  · rfl

/-! ### nameof -/
theorem c_names : spec_l05Names.f = impl_opNames.f := rfl
theorem c_names_some : ∃ l, impl_opNames.f = some l ∧ l.length = 18 := ⟨_, rfl, rfl⟩

/-! ### names -/
def c_namesL : List ByteArray := (impl_opNames.f).getD []
theorem c_namesL_eq : impl_opNames.f = some c_namesL := rfl
theorem c_namesL_len : c_namesL.length = 18 := rfl
def c_nm : List (List UInt8) := c_namesL.map fun x => x.data.toList
theorem c_nm_len : c_nm.length = 18 := rfl
theorem c_nm_inj : ∀ i j : Fin 18, (c_nm.getD i.val [] == c_nm.getD j.val []) = (i.val == j.val) := by decide +kernel
theorem c_nm_ne : ∀ i : Fin 18, c_nm.getD i.val [] ≠ [] := by decide +kernel
def c_name (a : Int) : ByteArray := if c_in a 0 17 = true then rdOf ByteArray.empty c_namesL a else (⟨#[]⟩ : ByteArray)
theorem c_name_val {a : Nat} (h : a < 18) : (c_name (a : Int)).toList = c_nm.getD a [] := by
  unfold c_name
  rw [if_pos (c_in_iff.2 ⟨by omega, by omega⟩), c_toList]
  unfold rdOf c_nm
  rw [Int.toNat_natCast, List.getD_eq_getElem?_getD, List.getD_eq_getElem?_getD, List.getElem?_map, List.getElem?_eq_getElem (by rw [c_namesL_len]; omega)]
  rfl

/-! ### lists -/
theorem c_inc' {i n : Nat} (h : i < n) (hn : n ≤ 9223372036854775807) : wrap64 ((i : Int) + 1) = ((i + 1 : Nat) : Int) := by rw [c_wrap (by omega) (by omega)]; omega

/-! ### instr -/
theorem c_rdI {l : List S62} {i : Nat} (h : i < l.length) : rd_T62 l (i : Int) = l[i]'h := by
  unfold rd_T62
  simp [h]
def c_okI (x : S62) : Bool := c_in x.f0 0 255 && c_in x.f1 0 255
def c_codeOk (l : List S62) : Bool := l.all c_okI && decide (l.length ≤ 60)

/-! ### asm -/
def c_opOf (b : ByteArray) : Option Nat := (List.range 18).find? fun i => c_nm.getD i [] == b.data.toList
theorem c_opOf_self : ∀ i : Fin 18, (List.range 18).find? (fun j => c_nm.getD j [] == c_nm.getD i.val []) = some i.val := by decide +kernel
theorem c_opOf_some {b : ByteArray} {i : Nat} (h : c_opOf b = some i) : i < 18 ∧ c_nm.getD i [] = b.data.toList := by
  have h1 := List.find?_some h
  have h2 := List.mem_of_find?_eq_some h
  exact ⟨by simpa using h2, by simpa using h1⟩
theorem c_opOf_none {b : ByteArray} (h : c_opOf b = none) (i : Nat) (hi : i < 18) : c_nm.getD i [] ≠ b.data.toList := by
  have := List.find?_eq_none.1 h i (by simpa using hi)
  simpa using this
def c_insX (o : Option Nat) (r : Int × Bool) : Option S62 := if r.2 = true ∧ r.1 ≤ 255 then o.map fun op => ⟨(op : Int), r.1⟩ else none
def c_ins : List ByteArray → Option S62
  | [] => none
  | [a] => c_insX (c_opOf a) (0, true)
  | [a, b] => c_insX (c_opOf a) (c_read b)
  | _ => none
def c_asmS (i : Nat) (out : List S62) (go : List S62 → List S62 × Int) (p : List ByteArray × Bool) : List S62 × Int :=
  if p.2 = true then (if p.1 = [] then go out else match c_ins p.1 with
    | some x => if out.length = 60 then ([], (i : Int) + 1) else go (out ++ [x])
    | none => ([], (i : Int) + 1)) else ([], (i : Int) + 1)
def c_asm : List ByteArray → Nat → List S62 → List S62 × Int
  | [], _, out => (out, 0)
  | s :: r, i, out => c_asmS i out (c_asm r (i + 1)) (c_parts s)
def c_assemble (s : ByteArray) : List S62 × Int := c_asm (c_lines s) 0 []
theorem c_asm_len : ∀ (L : List ByteArray) (i : Nat) (out : List S62), out.length ≤ 60 → (c_asm L i out).1.length ≤ 60
  | [], _, out, h => h
  | s :: r, i, out, h => by
    rw [c_asm]
    unfold c_asmS
    split
    · split
      · exact c_asm_len r _ _ h
      · split
        · split
          · exact Nat.zero_le _
          · exact c_asm_len r _ _ (by rw [List.length_append, List.length_singleton]; omega)
        · exact Nat.zero_le _
    · exact Nat.zero_le _

/-! ### asm_i -/
theorem c_words_mem : ∀ (l cur w : List UInt8), w ∈ c_words cur l → w.length ≤ cur.length + l.length
  | [], cur, w, h => by
    rw [c_words] at h
    split at h
    · cases h
    · rw [List.mem_singleton.1 h]
      simp
  | c :: t, cur, w, h => by
    rw [c_words] at h
    rw [List.length_cons]
    split at h
    · split at h
      · have := c_words_mem t [] w h
        rw [List.length_nil] at this
        omega
      · rcases List.mem_cons.1 h with rfl | h
        · omega
        · have := c_words_mem t [] w h
          rw [List.length_nil] at this
          omega
    · have := c_words_mem t _ w h
      rw [List.length_append, List.length_singleton] at this
      omega
theorem c_parts_mem (s : ByteArray) (b : ByteArray) (h : b ∈ (c_parts s).1) : b.size ≤ 600 := by
  unfold c_parts at h
  by_cases h6 : (s.size : Int) > 600
  · rw [if_pos h6] at h
    cases h
  · rw [if_neg h6] at h
    unfold c_out at h
    split at h
    · cases h
    · unfold c_fin at h
      split at h
      · cases h
      · obtain ⟨w, hw, rfl⟩ := List.mem_map.1 h
        have := c_words_mem _ _ _ hw
        rw [data_length, List.length_nil] at this
        rw [← data_length, c_mk_data]
        omega
theorem c_opOf_iff {a : ByteArray} {i : Nat} (h : i < 18) : (rdOf ByteArray.empty c_namesL (i : Int)).toList = a.toList ↔ c_opOf a = some i := by
  have hv : (rdOf ByteArray.empty c_namesL (i : Int)).toList = c_nm.getD i [] := by
    rw [← c_name_val h]
    unfold c_name
    rw [if_pos (c_in_iff.2 ⟨by omega, by omega⟩)]
  rw [hv, c_toList]
  constructor
  · intro e
    unfold c_opOf
    rw [← e]
    exact c_opOf_self ⟨i, h⟩
  · intro e
    exact (c_opOf_some e).2
def c_opI (o : Option Nat) (i : Nat) (op : Int) : Int := match o with
  | some j => if i ≤ j then (j : Int) else op
  | none => op
theorem c_opI_at (i : Nat) (op : Int) : c_opI (some i) (i + 1) (i : Int) = c_opI (some i) i op := by
  unfold c_opI
  dsimp only
  rw [if_neg (by omega), if_pos (Nat.le_refl _)]
theorem c_opI_off {o : Option Nat} {i : Nat} (op : Int) (h : ¬ o = some i) : c_opI o (i + 1) op = c_opI o i op := by
  unfold c_opI
  cases o with
  | none => rfl
  | some j =>
    dsimp only
    by_cases hj : i + 1 ≤ j
    · rw [if_pos hj, if_pos (by omega)]
    · rw [if_neg hj, if_neg (fun hx => h (by rw [show j = i by omega]))]
theorem c_opI_end {o : Option Nat} (op : Int) (h : ∀ j, o = some j → j < 18) : c_opI o 18 op = op := by
  unfold c_opI
  cases o with
  | none => rfl
  | some j =>
    dsimp only
    rw [if_neg (by have := h j rfl; omega)]
def c_riE (p : List ByteArray) (op : Int) : Option (Int × Int × Bool) := if (p.length : Int) = 2 then (if 1 < (p.length : Int) then ((impl_ReadDecimal.f (rdOf ByteArray.empty p 1)).bind fun bt245 => (if bt245.2 = true then (if op ≥ 0 then (if bt245.1 ≤ 255 then (some (op, bt245.1, decide ((p.length : Int) ≤ 2))) else (some (op, bt245.1, false))) else (some (op, bt245.1, false))) else (some (op, bt245.1, false)))) else (none)) else (if op ≥ 0 then (if (0 : Int) ≤ 255 then (some (op, 0, decide ((p.length : Int) ≤ 2))) else (some (op, 0, false))) else (some (op, 0, false)))
theorem c_ri_l (p : List ByteArray) (hp : 0 < p.length) (d : Nat) : ∀ (k i : Nat) (op : Int), 18 - i = d → i ≤ 18 → d < k → impl_readInstr.l0 k p c_namesL 18 i op 0 = c_riE p (c_opI (c_opOf (rdOf ByteArray.empty p 0)) i op) := by
  induction d with
  | zero =>
    intro k i op hd hi hk
    obtain ⟨k, rfl⟩ := c_up (k := k) (by omega)
    have hi' : i = 18 := by omega
    subst hi'
    rw [impl_readInstr.l0, if_neg (by omega), c_opI_end op (fun j h => (c_opOf_some h).1)]
    rfl
  | succ d ih =>
    intro k i op hd hi hk
    obtain ⟨k, rfl⟩ := c_up (k := k) (by omega)
    rw [impl_readInstr.l0, if_pos (by omega), if_pos (by omega), if_pos (by rw [c_namesL_len]; omega), if_pos (by omega), c_inc (n := 9223372036854775807) (by omega) (by omega)]
    by_cases h : (rdOf ByteArray.empty c_namesL (i : Int)).toList = (rdOf ByteArray.empty p 0).toList
    · have e := (c_opOf_iff (by omega)).1 h
      rw [if_pos h, ih k (i + 1) _ (by omega) (by omega) (by omega), e, c_opI_at i op]
    · have e : ¬ c_opOf (rdOf ByteArray.empty p 0) = some i := fun x => h ((c_opOf_iff (by omega)).2 x)
      rw [if_neg h, ih k (i + 1) _ (by omega) (by omega) (by omega), c_opI_off op e]
theorem c_insX_some (j : Nat) (r : Int × Bool) : c_insX (some j) r = if r.2 = true ∧ r.1 ≤ 255 then some ⟨(j : Int), r.1⟩ else none := rfl
theorem c_insX_none (r : Int × Bool) : c_insX none r = none := by
  unfold c_insX
  split <;> rfl
theorem c_opI_first (o : Option Nat) : (∃ j, o = some j ∧ c_opI o 0 (-1) = (j : Int)) ∨ (o = none ∧ c_opI o 0 (-1) = -1) := by
  cases o with
  | none => exact .inr ⟨rfl, rfl⟩
  | some j =>
    refine .inl ⟨j, rfl, ?_⟩
    unfold c_opI
    dsimp only
    rw [if_pos (Nat.zero_le j)]
theorem c_ri (p : List ByteArray) (hp : 0 < p.length) (hs : ∀ b ∈ p, b.size ≤ 600) (k : Nat) (hk : 20 < k) : ∃ a b ok, impl_readInstr.f k p = some (a, b, ok) ∧ c_ins p = if ok = true then some ⟨a, b⟩ else none := by
  have hl : (c_namesL.length : Int) = 18 := by rw [c_namesL_len]; rfl
  unfold impl_readInstr.f
  rw [c_namesL_eq, Option.bind_some, hl]
  have := c_ri_l p hp 18 k 0 (-1) (by omega) (by omega) (by omega)
  rw [show ((0 : Nat) : Int) = 0 from rfl] at this
  rw [this]
  clear this
  match p, hp, hs with
  | [a], _, _ =>
    have hr : rdOf ByteArray.empty [a] 0 = a := rfl
    rw [hr]
    unfold c_riE
    rw [if_neg (by simp), c_ins]
    rcases c_opI_first (c_opOf a) with ⟨j, e, e2⟩ | ⟨e, e2⟩
    · rw [e2, e, c_insX_some, if_pos (by omega), if_pos (by omega)]
      exact ⟨_, _, _, rfl, rfl⟩
    · rw [e2, e, c_insX_none, if_neg (by omega)]
      exact ⟨_, _, _, rfl, rfl⟩
  | [a, b], _, hs =>
    have hr : rdOf ByteArray.empty [a, b] 0 = a := rfl
    have hr1 : rdOf ByteArray.empty [a, b] 1 = b := rfl
    have hb := hs b (by simp)
    rw [hr]
    unfold c_riE
    rw [hr1, if_pos (by simp), if_pos (by simp), c_ins]
    unfold impl_ReadDecimal.f
    rw [if_pos (by omega), Option.bind_some]
    rcases c_opI_first (c_opOf a) with ⟨j, e, e2⟩ | ⟨e, e2⟩
    · rw [e2, e, c_insX_some, if_pos (show (j : Int) ≥ 0 by omega)]
      by_cases h1 : (c_read b).2 = true
      · rw [if_pos h1]
        by_cases h2 : (c_read b).1 ≤ 255
        · rw [if_pos h2, if_pos ⟨h1, h2⟩]
          exact ⟨_, _, _, rfl, rfl⟩
        · rw [if_neg h2, if_neg (fun x => h2 x.2)]
          exact ⟨_, _, _, rfl, rfl⟩
      · rw [if_neg h1, if_neg (fun x => h1 x.1)]
        exact ⟨_, _, _, rfl, rfl⟩
    · rw [e2, e, c_insX_none, if_neg (show ¬ (-1 : Int) ≥ 0 by omega)]
      refine ⟨-1, (c_read b).1, false, ?_, rfl⟩
      split <;> rfl
  | a :: b :: c :: r, _, _ =>
    unfold c_riE
    have h3 : ¬ (((a :: b :: c :: r).length : Nat) : Int) ≤ 2 := by simp; omega
    rw [if_neg (by simp; omega), decide_eq_false h3]
    refine ⟨c_opI (c_opOf (rdOf ByteArray.empty (a :: b :: c :: r) 0)) 0 (-1), 0, false, ?_, rfl⟩
    rw [if_pos (show (0 : Int) ≤ 255 by omega)]
    split <;> rfl
theorem c_linesOf (s : ByteArray) (hs : s.size < 4294967281) : impl_linesOf.f s = some (c_lines s) := by
  have hsp : strings_Split.f s (⟨#[10]⟩ : ByteArray) = some (c_pcs s) := by
    unfold strings_Split.f
    rw [if_pos ⟨hs, by decide⟩]
    rfl
  have hpos : 0 < (c_pcs s).length := by
    rw [c_pcs_spl s.size s (Nat.le_refl _), List.length_map]
    exact List.length_pos_iff.2 (c_spl_ne _ _)
  have hle : (c_pcs s).length ≤ s.size + 1 := by
    have h := Lib.splitB_all c_nl (by decide) 0 _ s rfl
    have hle := Lib.countB_le c_nl (by decide) s.size s (Nat.le_refl _)
    unfold c_pcs
    omega
  unfold impl_linesOf.f
  rw [hsp, Option.bind_some, c_lines_of]
  generalize c_pcs s = L at hpos hle
  have hw : wrap64 ((L.length : Int) - 1) = ((L.length - 1 : Nat) : Int) := by rw [c_wrap (by omega) (by omega)]; omega
  have hg : L.getLast? = some (rdOf ByteArray.empty L ((L.length - 1 : Nat) : Int)) := by
    rw [List.getLast?_eq_getElem?]
    unfold rdOf
    rw [Int.toNat_natCast, List.getD_eq_getElem?_getD, List.getElem?_eq_getElem (by omega)]
    rfl
  rw [hw, if_pos (by omega), if_pos (by omega), hg, Int.toNat_natCast]
  by_cases h : (rdOf ByteArray.empty L ((L.length - 1 : Nat) : Int)).toList = ([] : List UInt8)
  · rw [if_pos h, if_pos (by omega), if_pos, List.dropLast_eq_take]
    congr 1
    apply c_ext
    rw [c_mk_data, ← c_toList]
    exact h
  · rw [if_neg h, if_neg]
    intro e
    apply h
    rw [Option.some.inj e, c_toList, c_mk_data]
theorem c_asm_impl (L : List ByteArray) (hL : L.length ≤ 9223372036854775806) (d : Nat) : ∀ (k i : Nat) (out : List S62), L.length - i = d → i ≤ L.length → out.length ≤ 60 → 2 * d + 2100 ≤ k → impl_Assemble.l0 k out L (L.length : Int) i = some (c_asm (L.drop i) i out) := by
  induction d with
  | zero =>
    intro k i out hd hi ho hk
    obtain ⟨k, rfl⟩ := c_up (k := k) (by omega)
    rw [impl_Assemble.l0, if_neg (by omega), List.drop_eq_nil_of_le (by omega)]
    rfl
  | succ d ih =>
    intro k i out hd hi ho hk
    obtain ⟨k, rfl⟩ : ∃ m, k = m + 2 := ⟨k - 2, by omega⟩
    have hi' : i < L.length := by omega
    have hr : rdOf ByteArray.empty L (i : Int) = L[i] := by simp [rdOf, List.getD_eq_getElem?_getD, hi']
    have hw : wrap64 ((i : Int) + 1) = (i : Int) + 1 := c_wrap (by omega) (by omega)
    have hm := c_parts_mem L[i]
    rw [impl_Assemble.l0, if_pos (by omega), if_pos (by omega), if_pos (by omega), hr, c_parts_impl _ _ (by omega), Option.bind_some, List.drop_eq_getElem_cons hi', c_asm]
    generalize c_parts L[i] = P at hm ⊢
    unfold c_asmS
    by_cases hok : P.2 = true
    · rw [if_pos hok, if_pos hok, impl_Assemble.j1]
      by_cases he : P.1 = []
      · rw [if_pos he, if_pos (by rw [he]; rfl), hw]
        exact ih k (i + 1) out (by omega) (by omega) ho (by omega)
      · have hp : 0 < P.1.length := List.length_pos_iff.2 he
        obtain ⟨a, b, ok, e1, e2⟩ := c_ri P.1 hp hm k (by omega)
        rw [if_neg he, if_neg (by rw [beq_iff_eq]; omega), if_pos hok, e1, Option.bind_some, e2, hw]
        by_cases h : ok = true
        · rw [if_pos h, if_pos h]
          dsimp only
          by_cases h6 : out.length = 60
          · rw [if_pos h6, if_pos (by omega)]
          · rw [if_neg h6, if_neg (by omega), if_pos (by omega)]
            exact ih k (i + 1) _ (by omega) (by omega) (by rw [List.length_append, List.length_singleton]; omega) (by omega)
        · rw [if_neg h, if_neg h]
    · rw [if_neg hok, if_neg hok, impl_Assemble.j1, if_neg (by decide), if_neg hok, hw]
theorem c_Assemble_impl (s : ByteArray) (hs : s.size ≤ 1048576) (k : Nat) (hk : 2100000 ≤ k) : impl_Assemble.f k s = some (c_assemble s) := by
  have hl := c_lines_len s
  unfold impl_Assemble.f c_assemble
  rw [c_linesOf s (by omega), Option.bind_some]
  have := c_asm_impl (c_lines s) (by omega) (c_lines s).length k 0 [] (by omega) (by omega) (by simp) (by omega)
  simpa using this

/-! ### decimal -/
def c_decFin (b : Bool) (l : List UInt8) : ByteArray := if b = true then ⟨((45 : UInt8) :: l).toArray⟩ else ⟨l.toArray⟩
theorem c_decApp (a b : List UInt8) : (⟨a.toArray⟩ ++ ⟨b.toArray⟩ : ByteArray) = ⟨(a ++ b).toArray⟩ := by
  apply ByteArray.ext
  simp
theorem c_decSize (l : List UInt8) : (⟨l.toArray⟩ : ByteArray).size = l.length := by simp [ByteArray.size]
theorem c_decZero (b : Bool) (l : List UInt8) (hl : l.length ≤ 1000) : spec_Decimal.l0 1 0 b ⟨l.toArray⟩ = some (c_decFin b l) := by
  unfold spec_Decimal.l0 c_decFin
  rw [if_pos rfl]
  cases b
  · simp
  · rw [if_pos rfl, if_pos rfl, c_decSize, if_pos (by omega)]
    exact congrArg some (c_decApp [45] l)
theorem c_decStep (k : Nat) (x : Int) (b : Bool) (l : List UInt8) (hx : x ≠ 0) (h0 : -9223372036854775808 ≤ x) (h1 : x ≤ 9223372036854775807) (hl : l.length ≤ 1000) :
    spec_Decimal.l0 (k + 1) x b ⟨l.toArray⟩ = spec_Decimal.l0 k (Int.tdiv x 10) b ⟨(UInt8.ofNat (48 + x.natAbs % 10) :: l).toArray⟩ := by
  have hw : wrap64 (Int.tdiv x 10) = Int.tdiv x 10 := by
    have hq : (Int.tdiv x 10).natAbs = x.natAbs / 10 := by rw [Int.natAbs_tdiv]; rfl
    unfold wrap64; omega
  have key : ∀ d : Int, d = ((x.natAbs % 10 : Nat) : Int) → (spec_l01Figure.f d).bind (fun t105 => ((some (([t105] : List Int) : List Int)).bind fun y106 => (if (strOfNums y106).size + (⟨l.toArray⟩ : ByteArray).size ≤ 9223372036854775807 then (spec_Decimal.l0 k (wrap64 (Int.tdiv x 10)) b ((strOfNums y106) ++ ⟨l.toArray⟩)) else (none)))) = spec_Decimal.l0 k (Int.tdiv x 10) b ⟨(UInt8.ofNat (48 + x.natAbs % 10) :: l).toArray⟩ := by
    intro d hd
    have hd10 : d < 10 := by omega
    have hd0 : 0 ≤ d := by omega
    unfold spec_l01Figure.f
    rw [if_pos hd10]
    have hn : (wrap64 (48 + d)) % 256 = ((48 + x.natAbs % 10 : Nat) : Int) := by
      have : wrap64 (48 + d) = 48 + d := by unfold wrap64; omega
      rw [this]; omega
    rw [hn, Option.bind_some, Option.bind_some, strOfNums_size, c_decSize, if_pos (by simp; omega), hw]
    exact congrArg _ (c_decApp [UInt8.ofNat (48 + x.natAbs % 10)] l)
  conv => lhs; unfold spec_Decimal.l0
  rw [if_neg hx]
  split
  · rename_i hn
    refine key _ ?_
    have hq : (Int.tmod x 10).natAbs = x.natAbs % 10 := by rw [Int.natAbs_tmod]; rfl
    unfold wrap64; omega
  · rename_i hn
    refine key _ ?_
    have hq : (Int.tmod x 10).natAbs = x.natAbs % 10 := by rw [Int.natAbs_tmod]; rfl
    omega
theorem c_decMain (u : Nat) : ∀ (x : Int) (b : Bool) (l : List UInt8), x.natAbs = u → u ≠ 0 → -9223372036854775808 ≤ x → x ≤ 9223372036854775807 → l.length + Lib.nDigits u ≤ 1000 → spec_Decimal.l0 (Lib.nDigits u + 1) x b ⟨l.toArray⟩ = some (c_decFin b (Lib.decDigits u ++ l)) := by
  induction u using Nat.strongRecOn with
  | _ u ih =>
    intro x b l hu h0 hm hM hl
    have hp := Lib.nDigits_pos u
    have hq : (Int.tdiv x 10).natAbs = x.natAbs / 10 := by rw [Int.natAbs_tdiv]; rfl
    by_cases h : u < 10
    · have hz : Int.tdiv x 10 = 0 := by omega
      rw [Lib.nDigits_small h, c_decStep 1 x b l (by omega) hm hM (by omega), hz, c_decZero b _ (by simp; omega)]
      rw [Lib.decDigits, dif_pos h, show x.natAbs % 10 = u by omega]
      rfl
    · have hk := ih (u / 10) (by omega) (Int.tdiv x 10) b (UInt8.ofNat (48 + x.natAbs % 10) :: l) (by omega) (by omega) (by omega) (by omega) (by rw [Lib.nDigits_big h] at hl; simp; omega)
      rw [Lib.nDigits_big h, c_decStep _ x b l (by omega) hm hM (by omega), hk, show x.natAbs = u from hu]
      conv => rhs; rw [Lib.decDigits, dif_neg h]
      simp
theorem c_decimal0 (n : Int) (h0 : -9223372036854775808 ≤ n) (h1 : n ≤ 9223372036854775807) : ∃ k, k ≤ 21 ∧ spec_Decimal.f k n = some ⟨(Lib.itoa n).toArray⟩ := by
  unfold spec_Decimal.f
  by_cases hz : n = 0
  · subst hz
    refine ⟨0, by omega, ?_⟩
    rw [if_pos rfl, show Lib.itoa 0 = Lib.decDigits 0 from rfl, Lib.decDigits, dif_pos (by omega)]
    rfl
  · have hd := Lib.nDigits_le20 n.natAbs (by omega)
    have hk := c_decMain n.natAbs n (decide (n < 0)) [] rfl (by omega) h0 h1 (by simp; omega)
    refine ⟨Lib.nDigits n.natAbs + 1, by omega, ?_⟩
    rw [if_neg hz]
    refine hk.trans ?_
    unfold c_decFin Lib.itoa
    rw [List.append_nil]
    by_cases hn : n < 0
    · rw [if_pos (decide_eq_true hn), if_pos hn]
    · rw [if_neg (by simp [hn]), if_neg hn, show n.toNat = n.natAbs by omega]
theorem c_decimal (n : Int) (h0 : -9223372036854775808 ≤ n) (h1 : n ≤ 9223372036854775807) (k : Nat) (hk : 21 ≤ k) : spec_Decimal.f k n = some ⟨(Lib.itoa n).toArray⟩ := by
  obtain ⟨k0, h, e⟩ := c_decimal0 n h0 h1
  induction k with
  | zero => omega
  | succ m ih =>
    by_cases c : k0 = m + 1
    · rw [← c]; exact e
    · by_cases c2 : 21 ≤ m
      · exact spec_Decimal.mono _ _ _ (ih c2)
      · have hm : ∀ j, k0 ≤ j → spec_Decimal.f j n = some ⟨(Lib.itoa n).toArray⟩ := by
          intro j hj
          induction j with
          | zero => rw [show k0 = 0 by omega] at e; exact e
          | succ q iq =>
            by_cases c3 : k0 = q + 1
            · rw [← c3]; exact e
            · exact spec_Decimal.mono _ _ _ (iq (by omega))
        exact hm _ (by omega)

/-! ### readdec_s -/
theorem c_btd (s : ByteArray) (i : Nat) (h : i < s.size) : bt s (i : Int) = ((s.data.toList[i]'(by rw [Array.length_toList]; exact h)).toNat : Int) := by
  rw [c_bt s i h]
  rfl
/-- The reference's loop. -/
theorem c_loop (s : ByteArray) (hs : s.size ≤ 10) (d : Nat) : ∀ i : Nat, s.size - i = d → i ≤ s.size → c_digits (s.data.toList.take i) → ∃ k0, ∀ k, k0 ≤ k → spec_ReadDecimal.l0 k s (c_dv 0 (s.data.toList.take i)) (i : Int) = some (c_read s) := by
  have hlen : s.data.toList.length = s.size := Array.length_toList
  induction d with
  | zero =>
    intro i hd hi hg
    have hall : s.data.toList.take i = s.data.toList := List.take_of_length_le (by omega)
    rw [hall] at hg ⊢
    have hb := c_dv_le _ hg 0
    have hp : (0 + 1) * 10 ^ s.data.toList.length ≤ 10 ^ 10 := by rw [Nat.zero_add, Nat.one_mul]; exact Nat.pow_le_pow_right (by omega) (by omega)
    have hv : c_dv 0 s.data.toList < 10000000000 := by omega
    obtain ⟨k1, hmono⟩ : ∃ k1, ∀ k, k1 ≤ k → spec_Decimal.f k (c_dv 0 s.data.toList : Int) = some ⟨(Lib.itoa (c_dv 0 s.data.toList : Int)).toArray⟩ := ⟨21, fun k hk => c_decimal _ (by omega) (by omega) k hk⟩
    refine ⟨k1 + 1, fun k hk => ?_⟩
    obtain ⟨k, rfl⟩ : ∃ m, k = m + 1 := ⟨k - 1, by omega⟩
    rw [spec_ReadDecimal.l0, if_neg (by omega)]
    by_cases hbig : (c_dv 0 s.data.toList : Int) > 1000000000
    · rw [if_pos hbig, c_read_no]
      intro v h0 h1 e
      obtain ⟨_, b, _, _⟩ := c_itoa v h0
      rw [e] at b
      omega
    · rw [if_neg hbig, hmono k (by omega), Option.bind_some]
      by_cases he : Lib.itoa (c_dv 0 s.data.toList : Int) = s.data.toList
      · rw [if_pos (by rw [ByteArray.toList_eq, ByteArray.toList_eq]; simpa using he), c_read_yes s _ (by omega) (by omega) he]
      · rw [if_neg (by rw [ByteArray.toList_eq, ByteArray.toList_eq]; simpa using he), c_read_no]
        intro v h0 h1 e
        obtain ⟨_, b, _, _⟩ := c_itoa v h0
        rw [e] at b
        apply he
        rw [b, show ((v.toNat : Nat) : Int) = v by omega]
        exact e
  | succ d ih =>
    intro i hd hi hg
    have hib : i < s.data.toList.length := by omega
    by_cases hc : 48 ≤ (s.data.toList[i]).toNat ∧ (s.data.toList[i]).toNat ≤ 57
    · have htk : s.data.toList.take (i + 1) = s.data.toList.take i ++ [s.data.toList[i]] := by rw [List.take_succ_eq_append_getElem hib]
      obtain ⟨k0, hk0⟩ := ih (i + 1) (by omega) (by omega) (by
        rw [htk]
        intro c hcm
        rcases List.mem_append.1 hcm with hcm | hcm
        · exact hg c hcm
        · rw [List.mem_singleton.1 hcm]; exact hc)
      refine ⟨k0 + 1, fun k hk => ?_⟩
      obtain ⟨k, rfl⟩ : ∃ m, k = m + 1 := ⟨k - 1, by omega⟩
      have hb := c_dv_le _ hg 0
      have hp : (0 + 1) * 10 ^ (s.data.toList.take i).length ≤ 10 ^ 10 := by rw [Nat.zero_add, Nat.one_mul]; exact Nat.pow_le_pow_right (by omega) (by rw [List.length_take]; omega)
      have hv : c_dv 0 (s.data.toList.take i) < 10000000000 := by omega
      have hval : c_dv 0 (s.data.toList.take (i + 1)) = 10 * c_dv 0 (s.data.toList.take i) + ((s.data.toList[i]).toNat - 48) := by rw [htk, c_dv_app]; rfl
      have hk0' := hk0 k (by omega)
      rw [hval] at hk0'
      rw [spec_ReadDecimal.l0, if_pos (by omega), if_pos (by omega), c_btd s i (by omega), if_neg (by omega), if_neg (by omega)]
      generalize c_dv 0 (s.data.toList.take i) = m at hv hk0' ⊢
      generalize (s.data.toList[i]).toNat = c at hc hk0' ⊢
      rw [c_wrap (n := 10 * (m : Int)) (by omega) (by omega), c_wrap (n := (c : Int)) (by omega) (by omega), c_wrap (n := 10 * (m : Int) + (c : Int)) (by omega) (by omega), c_wrap (n := 10 * (m : Int) + (c : Int) - 48) (by omega) (by omega), c_wrap (n := (i : Int) + 1) (by omega) (by omega)]
      rw [show 10 * (m : Int) + (c : Int) - 48 = ((10 * m + (c - 48) : Nat) : Int) by omega]
      exact hk0'
    · refine ⟨1, fun k hk => ?_⟩
      obtain ⟨k, rfl⟩ : ∃ m, k = m + 1 := ⟨k - 1, by omega⟩
      have hno : c_read s = (0, false) := by
        apply c_read_no
        intro v h0 h1 e
        obtain ⟨a, _, _, _⟩ := c_itoa v h0
        rw [e] at a
        exact hc (a _ (List.getElem_mem _))
      rw [spec_ReadDecimal.l0, if_pos (by omega), if_pos (by omega), c_btd s i (by omega), hno]
      by_cases h48 : (((s.data.toList[i]).toNat : Nat) : Int) < 48
      · rw [if_pos h48]
      · rw [if_neg h48, if_pos (by omega)]
theorem c_nd10 (n : Nat) : ∀ u : Nat, u < 10 ^ n → 0 < n → Lib.nDigits u ≤ n := by
  induction n with
  | zero => intro u _ h; omega
  | succ n ih =>
    intro u hu _
    by_cases h : u < 10
    · rw [Lib.nDigits_small h]; omega
    · rw [Lib.nDigits_big h]
      have hp : 10 ^ (n + 1) = 10 ^ n * 10 := Nat.pow_succ ..
      have hn : 0 < n := by
        rcases Nat.eq_zero_or_pos n with rfl | hn
        · simp at hu; omega
        · exact hn
      have := ih (u / 10) (by omega) hn
      omega
theorem c_nd (u : Nat) (h : u ≤ 1000000000) : Lib.nDigits u ≤ 10 := c_nd10 10 u (by omega) (by omega)
theorem c_ReadDecimal (s : ByteArray) : ∃ k, spec_ReadDecimal.f k s = some (c_read s) := by
  have hlen : s.data.toList.length = s.size := Array.length_toList
  unfold spec_ReadDecimal.f
  by_cases h : (s.size : Int) > 10
  · refine ⟨0, ?_⟩
    rw [if_pos h, c_read_no]
    intro v h0 h1 e
    obtain ⟨_, _, _, b⟩ := c_itoa v h0
    rw [e, hlen] at b
    have : Lib.nDigits v.toNat ≤ 10 := by
      exact c_nd v.toNat (by omega)
    omega
  · obtain ⟨k0, hk⟩ := c_loop s (by omega) s.size 0 rfl (by omega) (by intro c hc; simp at hc)
    refine ⟨k0, ?_⟩
    rw [if_neg h]
    exact hk k0 (Nat.le_refl _)

/-! ### asm_s -/
theorem c_ReadDecimal_all (s : ByteArray) : ∃ k0, ∀ k, k0 ≤ k → spec_ReadDecimal.f k s = some (c_read s) := by
  obtain ⟨k1, h1⟩ := c_ReadDecimal s
  refine ⟨k1, fun k hk => ?_⟩
  induction k with
  | zero => rw [show k1 = 0 by omega] at h1; exact h1
  | succ n ih =>
    by_cases h : k1 = n + 1
    · rw [← h]; exact h1
    · exact spec_ReadDecimal.mono _ _ _ (ih (by omega))
theorem c_l05Lines_l (s : ByteArray) (hs : s.size ≤ 1048576) (d : Nat) : ∀ (k b i : Nat) (acc : List ByteArray), s.size - i = d → i ≤ s.size → b ≤ i → acc.length ≤ i → d < k →
    spec_l05Lines.l0 k s acc b i = some (acc ++ (c_lineL ((s.data.toList.take i).drop b) (s.data.toList.drop i)).map c_mk) := by
  have hlen : s.data.toList.length = s.size := data_length s
  induction d with
  | zero =>
    intro k b i acc hd hi hb ha hk
    obtain ⟨k, rfl⟩ := c_up (k := k) (by omega)
    have he : i = s.size := by omega
    subst he
    rw [spec_l05Lines.l0, if_neg (by omega), c_drop_end s s.size (by omega), c_lineL]
    by_cases h : b < s.size
    · have hne : ¬ (s.data.toList.take s.size).drop b = [] := by
        intro e
        have := congrArg List.length e
        rw [List.length_drop, List.length_take, hlen, List.length_nil] at this
        omega
      have hx : s.extract ((b : Int)).toNat s.size = c_mk ((s.data.toList.take s.size).drop b) := c_ext (by rw [c_extract, c_mk_data, Int.toNat_natCast])
      rw [if_pos (by omega), if_pos (by omega), if_pos (by omega), if_pos (by omega), if_neg hne, hx]
      rfl
    · have hne : (s.data.toList.take s.size).drop b = [] := List.drop_eq_nil_of_le (by rw [List.length_take, hlen]; omega)
      rw [if_neg (by omega), if_pos hne, List.map_nil, List.append_nil]
  | succ d ih =>
    intro k b i acc hd hi hb ha hk
    obtain ⟨k, rfl⟩ := c_up (k := k) (by omega)
    obtain ⟨c, hc, hdr⟩ := c_drop s i (by omega)
    have hcb := c.toNat_lt
    rw [spec_l05Lines.l0, if_pos (by omega), if_pos (by omega), hc, hdr, c_lineL, c_inc (n := 9223372036854775807) (by omega) (by omega)]
    by_cases h : c = 10
    · have h3n : c.toNat = 10 := by rw [h]; rfl
      have hcur : (s.data.toList.take (i + 1)).drop (i + 1) = [] := List.drop_eq_nil_of_le (by rw [List.length_take, hlen]; omega)
      have hx : s.extract ((b : Int)).toNat ((i : Int)).toNat = c_mk ((s.data.toList.take i).drop b) := c_ext (by rw [c_extract, c_mk_data, Int.toNat_natCast, Int.toNat_natCast])
      rw [if_pos (by omega), if_pos (by omega), if_pos (by omega), if_pos (by omega), if_pos (by omega), if_pos h, hx,
        ih k (i + 1) (i + 1) _ (by omega) (by omega) (by omega) (by rw [List.length_append]; simp; omega) (by omega), hcur]
      simp
    · have hn : ¬ (c.toNat : Int) = 10 := fun e => h (UInt8.toNat_inj.1 (by show c.toNat = 10; omega))
      have hcur : (s.data.toList.take (i + 1)).drop b = (s.data.toList.take i).drop b ++ [c] := by
        have hget : s.data.toList[i]? = some c := by
          have := congrArg List.head? hdr
          rwa [List.head?_drop, List.head?_cons] at this
        rw [List.take_add_one, hget, Option.toList_some, List.drop_append_of_le_length (by rw [List.length_take, hlen]; omega)]
      rw [if_neg hn, if_neg h, ih k b (i + 1) acc (by omega) (by omega) (by omega) (by omega) (by omega), hcur]
theorem c_l05Lines (s : ByteArray) (hs : s.size ≤ 1048576) (k : Nat) (hk : s.size < k) : spec_l05Lines.f k s = some (c_lines s) := by
  unfold spec_l05Lines.f c_lines
  have := c_l05Lines_l s hs s.size k 0 0 [] (by omega) (by omega) (Nat.le_refl _) (by simp) hk
  simpa using this
theorem c_sl_no (p : List ByteArray) (hp : 0 < p.length) (hno : ∀ i, c_opOf (rdOf ByteArray.empty p 0) = some i → (p.length : Int) > 2) (d : Nat) : ∀ (k i : Nat), 18 - i = d → i ≤ 18 → 2 * d < k → spec_l05Line.l0 k p c_namesL i = some (0, 0, false) := by
  have hl : (c_namesL.length : Int) = 18 := by rw [c_namesL_len]; rfl
  induction d with
  | zero =>
    intro k i hd hi hk
    obtain ⟨k, rfl⟩ := c_up (k := k) (by omega)
    rw [spec_l05Line.l0, if_neg (by omega)]
  | succ d ih =>
    intro k i hd hi hk
    obtain ⟨k, rfl⟩ : ∃ m, k = m + 2 := ⟨k - 2, by omega⟩
    rw [spec_l05Line.l0, if_pos (by omega), if_pos (by omega), if_pos (by omega)]
    have := ih k (i + 1) (by omega) (by omega) (by omega)
    by_cases h : (rdOf ByteArray.empty c_namesL (i : Int)).toList = (rdOf ByteArray.empty p 0).toList
    · rw [if_pos h, decide_eq_true (hno i ((c_opOf_iff (by omega)).1 h)), spec_l05Line.j1, if_pos rfl, c_inc (n := 9223372036854775807) (by omega) (by omega)]
      exact this
    · rw [if_neg h, spec_l05Line.j1, if_pos rfl, c_inc (n := 9223372036854775807) (by omega) (by omega)]
      exact this
def c_slE (k : Nat) (p : List ByteArray) (j : Nat) : Option (Int × Int × Bool) := if (p.length : Int) = 2 then (if 1 < (p.length : Int) then ((spec_ReadDecimal.f k (rdOf ByteArray.empty p 1)).bind fun bt142 => (if bt142.2 = true then (some ((j : Int), bt142.1, decide (bt142.1 ≤ 255))) else (some ((j : Int), bt142.1, false)))) else (none)) else (some ((j : Int), 0, decide ((0 : Int) ≤ 255)))
theorem c_sl_yes (p : List ByteArray) (hp : 0 < p.length) (j : Nat) (hj : c_opOf (rdOf ByteArray.empty p 0) = some j) (hs : ¬ (p.length : Int) > 2) (d : Nat) : ∀ (k i : Nat), j - i = d → i ≤ j → spec_l05Line.l0 (k + 2 * d + 2) p c_namesL i = c_slE k p j := by
  have hl : (c_namesL.length : Int) = 18 := by rw [c_namesL_len]; rfl
  have hj18 := (c_opOf_some hj).1
  induction d with
  | zero =>
    intro k i hd hi
    have hij : i = j := by omega
    subst hij
    have h := (c_opOf_iff hj18).2 hj
    rw [Nat.mul_zero, Nat.add_zero, spec_l05Line.l0, if_pos (by omega), if_pos (by omega), if_pos (by omega), if_pos h, decide_eq_false hs, spec_l05Line.j1, if_neg (by decide)]
    rfl
  | succ d ih =>
    intro k i hd hi
    have e : k + 2 * (d + 1) + 2 = (k + 2 * d + 2) + 1 + 1 := by omega
    have h : ¬ (rdOf ByteArray.empty c_namesL (i : Int)).toList = (rdOf ByteArray.empty p 0).toList := by
      intro x
      have y := (c_opOf_iff (by omega)).1 x
      rw [hj] at y
      have := Option.some.inj y
      omega
    rw [e, spec_l05Line.l0, if_pos (by omega), if_pos (by omega), if_pos (by omega), if_neg h, spec_l05Line.j1, if_pos rfl, c_inc (n := 9223372036854775807) (by omega) (by omega)]
    exact ih k (i + 1) (by omega) (by omega)
theorem c_specNames : spec_l05Names.f = some c_namesL := rfl
theorem c_sl (p : List ByteArray) (hp : 0 < p.length) : ∃ k0, ∀ k, k0 ≤ k → ∃ a b ok, spec_l05Line.f k p = some (a, b, ok) ∧ c_ins p = if ok = true then some ⟨a, b⟩ else none := by
  obtain ⟨k1, h1⟩ := c_ReadDecimal_all (rdOf ByteArray.empty p 1)
  refine ⟨k1 + 60, fun k hk => ?_⟩
  unfold spec_l05Line.f
  rw [c_specNames, Option.bind_some]
  by_cases hno : ∀ i, c_opOf (rdOf ByteArray.empty p 0) = some i → (p.length : Int) > 2
  · refine ⟨0, 0, false, c_sl_no p hp hno 18 k 0 rfl (by omega) (by omega), ?_⟩
    rw [if_neg (by decide)]
    match p, hp, hno with
    | [a], _, hno =>
      have hr : rdOf ByteArray.empty [a] 0 = a := rfl
      rw [hr] at hno
      rw [c_ins]
      cases ho : c_opOf a with
      | none => exact c_insX_none _
      | some j => exact absurd (hno j ho) (by simp)
    | [a, b], _, hno =>
      have hr : rdOf ByteArray.empty [a, b] 0 = a := rfl
      rw [hr] at hno
      rw [c_ins]
      cases ho : c_opOf a with
      | none => exact c_insX_none _
      | some j => exact absurd (hno j ho) (by simp)
    | a :: b :: c :: r, _, _ => rfl
  · obtain ⟨j, hno⟩ := Classical.not_forall.1 hno
    obtain ⟨hj, hs⟩ := Classical.not_imp.1 hno
    have hj18 := (c_opOf_some hj).1
    have := c_sl_yes p hp j hj hs j (k - 2 * j - 2) 0 (by omega) (by omega)
    rw [show k - 2 * j - 2 + 2 * j + 2 = k by omega, show ((0 : Nat) : Int) = 0 from rfl] at this
    rw [this]
    have hq := h1 (k - 2 * j - 2) (by omega)
    unfold c_slE
    rw [hq]
    clear this hq h1 hno
    match p, hp, hj, hs with
    | [a], _, hj, _ =>
      have hr : rdOf ByteArray.empty [a] 0 = a := rfl
      rw [hr] at hj
      rw [if_neg (by simp), c_ins, hj]
      exact ⟨_, _, _, rfl, rfl⟩
    | [a, b], _, hj, _ =>
      have hr : rdOf ByteArray.empty [a, b] 0 = a := rfl
      have hr1 : rdOf ByteArray.empty [a, b] 1 = b := rfl
      rw [hr] at hj
      rw [if_pos (by simp), if_pos (by simp), Option.bind_some, hr1, c_ins, hj, c_insX_some]
      by_cases e1 : (c_read b).2 = true
      · rw [if_pos e1]
        by_cases e2 : (c_read b).1 ≤ 255
        · rw [if_pos ⟨e1, e2⟩, decide_eq_true e2]
          exact ⟨_, _, _, rfl, rfl⟩
        · rw [if_neg (fun x => e2 x.2), decide_eq_false e2]
          exact ⟨_, _, _, rfl, rfl⟩
      · rw [if_neg e1, if_neg (fun x => e1 x.1)]
        exact ⟨_, _, _, rfl, rfl⟩
    | a :: b :: c :: r, _, _, hs => exact absurd (show ((((a :: b :: c :: r).length : Nat) : Int) > 2) by simp; omega) hs
theorem c_asm_spec (L : List ByteArray) (hL : L.length ≤ 9223372036854775806) (d : Nat) : ∀ (i : Nat) (out : List S62), L.length - i = d → i ≤ L.length → out.length ≤ 60 → ∃ k0, ∀ k, k0 ≤ k → spec_Assemble.l0 k L out i = some (c_asm (L.drop i) i out) := by
  induction d with
  | zero =>
    intro i out hd hi ho
    refine ⟨1, fun k hk => ?_⟩
    obtain ⟨k, rfl⟩ := c_up (k := k) (by omega)
    rw [spec_Assemble.l0, if_neg (by omega), List.drop_eq_nil_of_le (by omega)]
    rfl
  | succ d ih =>
    intro i out hd hi ho
    have hi' : i < L.length := by omega
    have hr : rdOf ByteArray.empty L (i : Int) = L[i] := by simp [rdOf, List.getD_eq_getElem?_getD, hi']
    have hw : wrap64 ((i : Int) + 1) = (i : Int) + 1 := c_wrap (by omega) (by omega)
    have head : ∀ k, 2000 ≤ k → spec_Assemble.l0 (k + 2) L out i = (if (c_parts L[i]).2 = true then (spec_Assemble.j1 (k + 1) L out i (c_parts L[i]).1 (c_parts L[i]).2 (((c_parts L[i]).1.length : Int) == 0)) else (spec_Assemble.j1 (k + 1) L out i (c_parts L[i]).1 (c_parts L[i]).2 false)) := by
      intro k hk
      rw [spec_Assemble.l0, if_pos (by omega), if_pos (by omega), hr, c_parts_spec _ _ (by omega), Option.bind_some]
    rw [List.drop_eq_getElem_cons hi', c_asm]
    generalize c_parts L[i] = P at head ⊢
    unfold c_asmS
    by_cases hok : P.2 = true
    · by_cases he : P.1 = []
      · obtain ⟨k0, h0⟩ := ih (i + 1) out (by omega) (by omega) ho
        refine ⟨k0 + 2002, fun k hk => ?_⟩
        obtain ⟨k, rfl⟩ : ∃ m, k = m + 2 := ⟨k - 2, by omega⟩
        rw [head k (by omega), if_pos hok, if_pos hok, if_pos he, spec_Assemble.j1, if_pos (by rw [he]; rfl), hw]
        exact h0 k (by omega)
      · have hp : 0 < P.1.length := List.length_pos_iff.2 he
        obtain ⟨k1, h1⟩ := c_sl P.1 hp
        have go : ∀ k, 2000 ≤ k → spec_Assemble.l0 (k + 2) L out i = ((spec_l05Line.f k P.1).bind fun bt155 => (if bt155.2.2 = true then (if (out.length : Int) = 60 then (some ((([] : List (S62))), wrap64 ((i : Int) + 1))) else (if out.length < 8796093022208 then (spec_Assemble.l0 k L (out ++ [(⟨bt155.1, bt155.2.1⟩ : S62)]) (wrap64 ((i : Int) + 1))) else (none))) else (some ((([] : List (S62))), wrap64 ((i : Int) + 1))))) := by
          intro k hk
          rw [head k hk, if_pos hok, spec_Assemble.j1, if_neg (by rw [beq_iff_eq]; omega), if_pos hok]
        rw [if_pos hok, if_neg he]
        cases hi2 : c_ins P.1 with
        | none =>
          refine ⟨k1 + 2002, fun k hk => ?_⟩
          obtain ⟨k, rfl⟩ : ∃ m, k = m + 2 := ⟨k - 2, by omega⟩
          obtain ⟨a, b, ok, e1, e2⟩ := h1 k (by omega)
          rw [go k (by omega), e1, Option.bind_some, hw]
          rw [hi2] at e2
          by_cases h : ok = true
          · rw [if_pos h] at e2
            cases e2
          · rw [if_neg h]
        | some x =>
          dsimp only
          by_cases h6 : out.length = 60
          · refine ⟨k1 + 2002, fun k hk => ?_⟩
            obtain ⟨k, rfl⟩ : ∃ m, k = m + 2 := ⟨k - 2, by omega⟩
            obtain ⟨a, b, ok, e1, e2⟩ := h1 k (by omega)
            rw [go k (by omega), e1, Option.bind_some, hw, if_pos h6]
            rw [hi2] at e2
            by_cases h : ok = true
            · rw [if_pos h, if_pos (by omega)]
            · rw [if_neg h] at e2
              cases e2
          · obtain ⟨k0, h0⟩ := ih (i + 1) (out ++ [x]) (by omega) (by omega) (by rw [List.length_append, List.length_singleton]; omega)
            refine ⟨k0 + k1 + 2002, fun k hk => ?_⟩
            obtain ⟨k, rfl⟩ : ∃ m, k = m + 2 := ⟨k - 2, by omega⟩
            obtain ⟨a, b, ok, e1, e2⟩ := h1 k (by omega)
            rw [go k (by omega), e1, Option.bind_some, hw, if_neg h6]
            rw [hi2] at e2
            by_cases h : ok = true
            · rw [if_pos h] at e2
              rw [if_pos h, if_neg (by omega), if_pos (by omega), ← Option.some.inj e2]
              exact h0 k (by omega)
            · rw [if_neg h] at e2
              cases e2
    · refine ⟨2002, fun k hk => ?_⟩
      obtain ⟨k, rfl⟩ : ∃ m, k = m + 2 := ⟨k - 2, by omega⟩
      rw [head k (by omega), if_neg hok, if_neg hok, spec_Assemble.j1, if_neg (by decide), if_neg hok, hw]
theorem c_Assemble_spec (s : ByteArray) (hs : s.size ≤ 1048576) : ∃ k0, ∀ k, k0 ≤ k → spec_Assemble.f k s = some (c_assemble s) := by
  have hl := c_lines_len s
  obtain ⟨k0, h0⟩ := c_asm_spec (c_lines s) (by omega) (c_lines s).length 0 [] (by omega) (by omega) (by simp)
  refine ⟨k0 + 1048577, fun k hk => ?_⟩
  unfold spec_Assemble.f c_assemble
  rw [c_l05Lines s hs k (by omega), Option.bind_some]
  have := h0 k (by omega)
  simpa using this

/-! ### instr_eq -/
theorem c_eqInstr_l (l : List S62) (hl : l.length ≤ 9223372036854775807) (d : Nat) : ∀ (k i : Nat), l.length - i = d → i ≤ l.length → d < k → laws_eqInstrS.l0 k l l i = some true := by
  induction d with
  | zero =>
    intro k i hd hi hk
    obtain ⟨k, rfl⟩ := c_up (k := k) (by omega)
    rw [laws_eqInstrS.l0, if_neg (by omega)]
  | succ d ih =>
    intro k i hd hi hk
    obtain ⟨k, rfl⟩ := c_up (k := k) (by omega)
    rw [laws_eqInstrS.l0, if_pos (by omega), if_pos (by omega), if_pos (by omega), laws_eqInstr.f, if_pos rfl, if_pos rfl, c_inc' (n := l.length) (by omega) hl]
    simp only [Option.bind_some, if_true]
    exact ih k (i + 1) (by omega) (by omega) (by omega)
theorem c_eqInstrS (l : List S62) (hl : l.length ≤ 9223372036854775807) (k : Nat) (hk : l.length < k) : laws_eqInstrS.f k l l = some true := by
  unfold laws_eqInstrS.f
  rw [if_pos rfl]
  exact c_eqInstr_l l hl l.length k 0 (by omega) (by omega) hk

/-! ### markinstr -/
def c_seqI (m : Int) (n : Nat) : List S62 := (List.range n).map fun (i : Nat) => ⟨m + 2 * (i : Int), m + 2 * (i : Int) + 1⟩
theorem c_seqI_len (m : Int) (n : Nat) : (c_seqI m n).length = n := by simp [c_seqI]
theorem c_seqI_succ (m : Int) (n : Nat) : c_seqI m (n + 1) = c_seqI m n ++ [⟨m + 2 * (n : Int), m + 2 * (n : Int) + 1⟩] := by simp [c_seqI, List.range_succ]
theorem c_setI (pre : List S62) (a b : S62) (l : List S62) (n : Nat) (h : pre.length = n) : (pre ++ a :: l).set ((n : Int)).toNat b = pre ++ b :: l := by
  subst h
  rw [Int.toNat_natCast, List.set_append_right _ _ (Nat.le_refl _), Nat.sub_self, List.set_cons_zero]
theorem c_rdI_app (pre : List S62) (a : S62) (l : List S62) (n : Nat) (h : pre.length = n) : rd_T62 (pre ++ a :: l) (n : Int) = a := by
  subst h
  unfold rd_T62
  simp
theorem c_markI_l (m : Int) (h0 : 0 ≤ m) (l : List S62) : ∀ (k i : Nat), m + 2 * (i : Int) + 2 * l.length ≤ 9223372036854775807 → l.length < k → laws_markInstrS.l0 k (c_seqI m i ++ l) (m + 2 * (i : Int)) i = some (m + 2 * (i : Int) + 2 * l.length, c_seqI m (i + l.length)) := by
  induction l with
  | nil =>
    intro k i hb hk
    obtain ⟨k, rfl⟩ := c_up (k := k) (by omega)
    rw [List.append_nil, laws_markInstrS.l0, if_neg (by rw [c_seqI_len]; omega)]
    simp
  | cons a l ih =>
    intro k i hb hk
    rw [List.length_cons] at hb hk
    obtain ⟨k, rfl⟩ := c_up (k := k) (by omega)
    have hlen : (c_seqI m i ++ a :: l).length = i + (l.length + 1) := by rw [List.length_append, c_seqI_len, List.length_cons]
    have := ih k (i + 1) (by omega) (by omega)
    rw [c_seqI_succ, List.append_assoc] at this
    have e1 : m + 2 * (i : Int) + 1 + 1 = m + 2 * ((i + 1 : Nat) : Int) := by omega
    have q1 : (i : Int) < ((c_seqI m i ++ a :: l).length : Int) := by rw [hlen]; omega
    have q2 : (0 : Int) ≤ (i : Int) := by omega
    have w1 := Aside0.mk (c_inc' (i := i) (n := i + 1) (by omega) (by omega))
    have w2 : Aside0 (wrap64 (m + 2 * (i : Int) + 1) = m + 2 * (i : Int) + 1) := ⟨c_wrap (by omega) (by omega)⟩
    have w3 : Aside0 (wrap64 (m + 2 * (i : Int) + 1 + 1) = m + 2 * ((i + 1 : Nat) : Int)) := ⟨by rw [c_wrap (by omega) (by omega)]; omega⟩
    rw [laws_markInstrS.l0, if_pos q1, if_pos q2, c_setI _ _ _ _ _ (c_seqI_len m i), c_rdI_app _ _ _ _ (c_seqI_len m i)]
    simp only [Option.bind_some]
    rw [c_setI _ _ _ _ _ (c_seqI_len m i), c_rdI_app _ _ _ _ (c_seqI_len m i), w1.out, w2.out, w3.out]
    refine this.trans ?_
    rw [List.length_cons, Nat.add_assoc, Nat.add_comm 1]
    congr 2
    omega
theorem c_markI (l : List S62) (m : Int) (h0 : 0 ≤ m) (hb : m + 2 * l.length ≤ 9223372036854775807) (k : Nat) (hk : l.length < k) : laws_markInstrS.f k l m = some (m + 2 * l.length, c_seqI m l.length) := by
  have := c_markI_l m h0 l k 0 (by omega) hk
  unfold laws_markInstrS.f
  simpa [c_seqI] using this
theorem c_heldI_l (m : Int) (h0 : 0 ≤ m) (n : Nat) (hb : m + 2 * n ≤ 9223372036854775807) (d : Nat) : ∀ (k i : Nat), n - i = d → i ≤ n → d < k → laws_heldInstrS.l0 k (c_seqI m n) (m + 2 * (i : Int)) i = some (m + 2 * (n : Int)) := by
  induction d with
  | zero =>
    intro k i hd hi hk
    obtain ⟨k, rfl⟩ := c_up (k := k) (by omega)
    rw [laws_heldInstrS.l0, if_neg (by rw [c_seqI_len]; omega)]
    have : i = n := by omega
    rw [this]
  | succ d ih =>
    intro k i hd hi hk
    obtain ⟨k, rfl⟩ := c_up (k := k) (by omega)
    have hr : rd_T62 (c_seqI m n) (i : Int) = ⟨m + 2 * (i : Int), m + 2 * (i : Int) + 1⟩ := by
      rw [c_rdI (by rw [c_seqI_len]; omega)]
      simp [c_seqI]
    have := ih k (i + 1) (by omega) (by omega) (by omega)
    have w1 := Aside0.mk (c_inc' (i := i) (n := n) (by omega) (by omega))
    have w2 : Aside0 (wrap64 (m + 2 * (i : Int) + 1) = m + 2 * (i : Int) + 1) := ⟨c_wrap (by omega) (by omega)⟩
    have w3 : Aside0 (wrap64 (m + 2 * (i : Int) + 1 + 1) = m + 2 * ((i + 1 : Nat) : Int)) := ⟨by rw [c_wrap (by omega) (by omega)]; omega⟩
    have q1 : (i : Int) < ((c_seqI m n).length : Int) := by rw [c_seqI_len]; omega
    have q2 : (0 : Int) ≤ (i : Int) := by omega
    rw [laws_heldInstrS.l0, if_pos q1, if_pos q2, hr, if_pos rfl, w2.out, if_pos rfl, w3.out, w1.out, this]
theorem c_heldI (m : Int) (h0 : 0 ≤ m) (n : Nat) (hb : m + 2 * n ≤ 9223372036854775807) (k : Nat) (hk : n < k) : laws_heldInstrS.f k (c_seqI m n) m = some (m + 2 * (n : Int)) := by
  have := c_heldI_l m h0 n hb n k 0 (by omega) (by omega) hk
  unfold laws_heldInstrS.f
  simpa using this

/-! ### the law -/
theorem FnExactAssemble (a0 : ByteArray) : ∃ k, laws_FnExactAssemble.f k a0 = some true := by
  by_cases h : (a0.size : Int) > 1048576
  · refine ⟨0, ?_⟩
    unfold laws_FnExactAssemble.f
    rw [if_pos h]
  · obtain ⟨k0, h0⟩ := c_Assemble_spec a0 (by omega)
    have hn : (c_assemble a0).1.length ≤ 60 := c_asm_len _ _ _ (by simp)
    refine ⟨k0 + 2100010, ?_⟩
    unfold laws_FnExactAssemble.f
    have e1 : ∀ k, 2100000 ≤ k → impl_Assemble.f k a0 = some (c_assemble a0) := fun k hk => c_Assemble_impl a0 (by omega) k hk
    rw [if_neg h, h0 _ (by omega), Option.bind_some, e1 _ (by omega), Option.bind_some]
    generalize c_assemble a0 = P at hn e1
    have hm := fun k hk => c_markI P.1 1 (by omega) (by omega) k hk
    have hh := fun k hk => c_heldI 1 (by omega) P.1.length (by omega) k hk
    have hq := fun k hk => c_eqInstrS P.1 (by omega) k hk
    rw [hq _ (by omega), Option.bind_some, if_pos rfl, bne_self_eq_false, laws_FnExactAssemble.j0, if_neg (by decide), hm _ (by omega), Option.bind_some, hh _ (by omega), Option.bind_some,
      if_neg (by omega), if_pos rfl, e1 _ (by omega), Option.bind_some, hq _ (by omega), Option.bind_some, if_pos rfl, bne_self_eq_false, laws_FnExactAssemble.j1, if_neg (by decide), hh _ (by omega), Option.bind_some, if_neg (by omega), if_pos rfl]
theorem told (a0 : ByteArray) (h0 : a0.size ≤ 140737488351232) (W : World) (hm : PFnExactAssemble.Lb W) :
    Calls Tryd.prog 4 #[.string a0] W fun e w' => e = .returned (.bool true) ∧ Below W.heap.size W w' := by
  obtain ⟨k, h⟩ := FnExactAssemble a0
  exact laws_FnExactAssemble.calls k a0 true W hm h

end Go.Proofs.YtenhjngddagghaaDoor.Pure
