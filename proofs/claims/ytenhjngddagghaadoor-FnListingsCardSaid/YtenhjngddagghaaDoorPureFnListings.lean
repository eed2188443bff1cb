/- Drawn code of which each instruction has a name comes back from its listing, and a drawn text is assembled as the reference assembles it, for every draw (the law itself answers true of one of more than 2^20 bytes). -/
import Derived.Test.YtenhjngddagghaaDoorMFnListingsx13
namespace Go.Proofs.YtenhjngddagghaaDoor.Pure
open Go.RowKit Go.Proofs.YtenhjngddagghaaDoor.PFnListings Go.Proofs.YtenhjngddagghaaDoorW.PrintWords Go.Proofs.YtenhjngddagghaaDoorW.PrintLast
set_option linter.unusedVariables false
set_option linter.unusedSimpArgs false

/-! ### base -/
theorem c_wrap {n : Int} (h0 : -9223372036854775808 ≤ n) (h1 : n ≤ 9223372036854775807) : wrap64 n = n := by unfold wrap64; omega
theorem c_wf {n : Int} (h : (Lit.int .i64 n).wf = true) : -9223372036854775808 ≤ n ∧ n ≤ 9223372036854775807 := by
  simpa [Lit.wf, IntKind.min, IntKind.max, IntKind.signed, IntKind.bits] using h
theorem c_wf32 {n : Int} (h : (Lit.int .u32 n).wf = true) : 0 ≤ n ∧ n ≤ 4294967295 := by
  simpa [Lit.wf, IntKind.min, IntKind.max, IntKind.signed, IntKind.bits] using h
theorem c_up {k : Nat} (h : 0 < k) : ∃ m, k = m + 1 := ⟨k - 1, by omega⟩

/-! ### ints -/
theorem c_rd {l : List Int} {i : Nat} (h : i < l.length) : rd l (i : Int) = l[i]'h := by
  unfold rd
  simp [h]
theorem c_rd_app (pre : List Int) (a : Int) (l : List Int) : rd (pre ++ a :: l) (pre.length : Int) = a := by
  unfold rd
  simp
theorem c_inc {i n : Nat} (h : i < n) (hn : n ≤ 9223372036854775807) : wrap64 ((i : Int) + 1) = ((i + 1 : Nat) : Int) := by rw [c_wrap (by omega) (by omega)]; omega

/-! ### drop -/
theorem c_bt (s : ByteArray) (i : Nat) (h : i < s.size) : bt s (i : Int) = ((s[i]'h).toNat : Int) := by
  unfold bt
  simp [h]
theorem c_drop (s : ByteArray) (i : Nat) (h : i < s.size) : ∃ b : UInt8, bt s (i : Int) = (b.toNat : Int) ∧ s.data.toList.drop i = b :: s.data.toList.drop (i + 1) := by
  refine ⟨s[i]'h, c_bt s i h, ?_⟩
  rw [List.drop_eq_getElem_cons (by rw [data_length]; exact h)]
  rfl
theorem c_drop_end (s : ByteArray) (i : Nat) (h : s.size ≤ i) : s.data.toList.drop i = [] := List.drop_eq_nil_of_le (by rw [data_length]; exact h)

/-! ### bytes -/
theorem c_toList (s : ByteArray) : s.toList = s.data.toList := ByteArray.toList_eq s
theorem c_extract (s : ByteArray) (a b : Nat) : (s.extract a b).data.toList = (s.data.toList.take b).drop a := by
  simp [ByteArray.data_extract, Array.toList_extract, List.extract_eq_take_drop, List.drop_take]
theorem c_ext {s t : ByteArray} (h : s.data.toList = t.data.toList) : s = t := by
  cases s; cases t; congr; exact Array.toList_inj.1 h

/-! ### within -/
def c_in (n l h : Int) : Bool := decide (l ≤ n) && decide (n ≤ h)
theorem c_in_iff {n l h : Int} : c_in n l h = true ↔ l ≤ n ∧ n ≤ h := by simp [c_in]
theorem c_in_no {n l h : Int} : ¬ c_in n l h = true ↔ n < l ∨ h < n := by rw [c_in_iff]; omega

/-! ### within_i -/
theorem c_within (n l h : Int) : impl_within.f n l h = some (c_in n l h) := by
  unfold impl_within.f c_in
  by_cases h0 : n ≥ l
  · rw [if_pos h0]; simp [h0]
  · rw [if_neg h0]; simp; omega

/-! ### partsof -/
def c_words : List UInt8 → List UInt8 → List (List UInt8)
  | cur, [] => if cur = [] then [] else [cur]
  | cur, c :: t => if c = 32 then (if cur = [] then c_words [] t else cur :: c_words [] t) else c_words (cur ++ [c]) t
def c_mk (l : List UInt8) : ByteArray := ⟨l.toArray⟩
theorem c_mk_data (l : List UInt8) : (c_mk l).data.toList = l := by simp [c_mk]
theorem c_mk_of (s : ByteArray) : c_mk s.data.toList = s := c_ext (c_mk_data _)
def c_fine (l : List UInt8) : Bool := l.all fun c => decide (32 ≤ c.toNat ∧ c.toNat ≤ 126)
theorem c_fine_cons (c : UInt8) (l : List UInt8) : c_fine (c :: l) = (decide (32 ≤ c.toNat ∧ c.toNat ≤ 126) && c_fine l) := rfl
def c_fin (l : List ByteArray) : List ByteArray × Bool := if (l.length : Int) > 10 then ([], false) else (l, true)
def c_out (b : Bool) (l : List ByteArray) : List ByteArray × Bool := if b = false then ([], false) else c_fin l
def c_parts (s : ByteArray) : List ByteArray × Bool := if (s.size : Int) > 600 then ([], false) else c_out (c_fine s.data.toList) ((c_words [] s.data.toList).map c_mk)
theorem c_out_true (l : List ByteArray) : c_out true l = c_fin l := rfl
theorem c_fin_some (l : List ByteArray) : (if (l.length : Int) > 10 then some (([] : List ByteArray), false) else some (l, true)) = some (c_fin l) := by
  unfold c_fin
  by_cases h : (l.length : Int) > 10
  · rw [if_pos h, if_pos h]
  · rw [if_neg h, if_neg h]
theorem c_toNat32 {c : UInt8} : c.toNat = 32 ↔ c = 32 := by
  constructor
  · intro h; exact UInt8.toNat_inj.1 h
  · intro h; subst h; rfl
theorem c_partsl_spec (s : ByteArray) (hs : s.size ≤ 600) (d : Nat) : ∀ (k b i : Nat) (acc : List ByteArray), s.size - i = d → i ≤ s.size → b ≤ i → acc.length ≤ i → 3 * d + 4 ≤ k →
    spec_PartsOf.l0 k s acc b i = some (c_out (c_fine (s.data.toList.drop i)) (acc ++ (c_words ((s.data.toList.take i).drop b) (s.data.toList.drop i)).map c_mk)) := by
  have hlen : s.data.toList.length = s.size := data_length s
  induction d with
  | zero =>
    intro k b i acc hd hi hb ha hk
    obtain ⟨k, rfl⟩ : ∃ m, k = m + 4 := ⟨k - 4, by omega⟩
    have he : i = s.size := by omega
    rw [spec_PartsOf.l0, if_pos (by omega), if_neg (by omega), spec_PartsOf.j1, if_neg (by decide), if_neg (by omega), spec_PartsOf.j2, if_neg (by decide), c_drop_end s i (by omega)]
    have hf : c_fine [] = true := rfl
    rw [hf, c_out_true, c_words]
    by_cases h : b < i
    · have hne : ¬ (s.data.toList.take i).drop b = [] := by
        intro e
        have := congrArg List.length e
        rw [List.length_drop, List.length_take, hlen, List.length_nil] at this
        omega
      rw [if_pos (by omega), if_pos (by omega), if_pos (by omega), if_pos (by omega), if_pos (by omega), c_inc (n := 9223372036854775807) (by omega) (by omega), spec_PartsOf.l0, if_neg (by omega), if_neg hne]
      have hx : s.extract ((b : Int)).toNat ((i : Int)).toNat = c_mk ((s.data.toList.take i).drop b) := c_ext (by rw [c_extract, c_mk_data, Int.toNat_natCast, Int.toNat_natCast])
      rw [hx]
      exact c_fin_some _
    · have hbi : b = i := by omega
      have hne : (s.data.toList.take i).drop b = [] := List.drop_eq_nil_of_le (by rw [List.length_take, hlen]; omega)
      rw [if_neg (by omega), c_inc (n := 9223372036854775807) (by omega) (by omega), spec_PartsOf.l0, if_neg (by omega), if_pos hne, List.map_nil, List.append_nil]
      exact c_fin_some _
  | succ d ih =>
    intro k b i acc hd hi hb ha hk
    obtain ⟨k, rfl⟩ : ∃ m, k = m + 3 := ⟨k - 3, by omega⟩
    obtain ⟨c, hc, hdr⟩ := c_drop s i (by omega)
    have hcb := c.toNat_lt
    rw [spec_PartsOf.l0, if_pos (by omega), if_pos (by omega), if_pos (by omega), hc, hdr, c_fine_cons]
    by_cases h1 : (c.toNat : Int) < 32
    · rw [if_pos h1, spec_PartsOf.j1, if_pos rfl]
      have : decide (32 ≤ c.toNat ∧ c.toNat ≤ 126) = false := decide_eq_false (by omega)
      rw [this]
      rfl
    · rw [if_neg h1]
      by_cases h2 : (c.toNat : Int) > 126
      · rw [spec_PartsOf.j1, if_pos (decide_eq_true h2)]
        have : decide (32 ≤ c.toNat ∧ c.toNat ≤ 126) = false := decide_eq_false (by omega)
        rw [this]
        rfl
      · have h12 : decide (32 ≤ c.toNat ∧ c.toNat ≤ 126) = true := decide_eq_true (by omega)
        rw [spec_PartsOf.j1, if_neg (by rw [decide_eq_false h2]; decide), if_pos (by omega), if_pos (by omega), spec_PartsOf.j2, hc, h12, Bool.true_and, c_words]
        by_cases h3 : c = 32
        · have h3n := c_toNat32.2 h3
          have hn : ((c.toNat : Int) != 32) = false := bne_eq_false_iff_eq.2 (by omega)
          have hcur : (s.data.toList.take (i + 1)).drop (i + 1) = [] := List.drop_eq_nil_of_le (by rw [List.length_take, hlen]; omega)
          rw [hn, if_neg (by decide), if_pos h3]
          by_cases h : b < i
          · have hne : ¬ (s.data.toList.take i).drop b = [] := by
              intro e
              have := congrArg List.length e
              rw [List.length_drop, List.length_take, hlen, List.length_nil] at this
              omega
            have hx : s.extract ((b : Int)).toNat ((i : Int)).toNat = c_mk ((s.data.toList.take i).drop b) := c_ext (by rw [c_extract, c_mk_data, Int.toNat_natCast, Int.toNat_natCast])
            rw [if_pos (by omega), if_pos (by omega), if_pos (by omega), if_pos (by omega), if_pos (by omega), c_inc (n := 9223372036854775807) (by omega) (by omega), if_neg hne, hx,
              ih k (i + 1) (i + 1) _ (by omega) (by omega) (by omega) (by rw [List.length_append]; simp; omega) (by omega), hcur]
            simp
          · have hne : (s.data.toList.take i).drop b = [] := List.drop_eq_nil_of_le (by rw [List.length_take, hlen]; omega)
            rw [if_neg (by omega), c_inc (n := 9223372036854775807) (by omega) (by omega), if_pos hne, ih k (i + 1) (i + 1) _ (by omega) (by omega) (by omega) (by omega) (by omega), hcur]
        · have hn : ((c.toNat : Int) != 32) = true := bne_iff_ne.2 (fun e => h3 (c_toNat32.1 (by omega)))
          have hcur : (s.data.toList.take (i + 1)).drop b = (s.data.toList.take i).drop b ++ [c] := by
            have hget : s.data.toList[i]? = some c := by
              have := congrArg List.head? hdr
              rwa [List.head?_drop, List.head?_cons] at this
            rw [List.take_add_one, hget, Option.toList_some, List.drop_append_of_le_length (by rw [List.length_take, hlen]; omega)]
          rw [hn, if_pos rfl, c_inc (n := 9223372036854775807) (by omega) (by omega), if_neg h3, ih k b (i + 1) acc (by omega) (by omega) (by omega) (by omega) (by omega), hcur]
theorem c_parts_spec (s : ByteArray) (k : Nat) (hk : 2000 ≤ k) : spec_PartsOf.f k s = some (c_parts s) := by
  unfold spec_PartsOf.f c_parts
  rw [Option.bind_some]
  by_cases h : (s.size : Int) > 600
  · rw [if_pos h, if_pos h]
  · rw [if_neg h, if_neg h]
    have := c_partsl_spec s (by omega) s.size k 0 0 [] rfl (by omega) (Nat.le_refl _) (by simp) (by omega)
    simpa using this
def c_full (l : List ByteArray) : List ByteArray := l.filter fun b => decide (b.data.toList ≠ [])
theorem c_full_pos (b : ByteArray) (l : List ByteArray) (h : b.data.toList ≠ []) : c_full (b :: l) = b :: c_full l := List.filter_cons_of_pos (p := fun b : ByteArray => decide (b.data.toList ≠ [])) (decide_eq_true h)
theorem c_full_neg (b : ByteArray) (l : List ByteArray) (h : b.data.toList = []) : c_full (b :: l) = c_full l := List.filter_cons_of_neg (p := fun b : ByteArray => decide (b.data.toList ≠ [])) (fun e => (of_decide_eq_true e) h)
theorem c_partsl1 (L : List ByteArray) (hL : L.length ≤ 1000) (d : Nat) : ∀ (k i : Nat) (acc : List ByteArray), L.length - i = d → i ≤ L.length → acc.length ≤ i → d + 1 ≤ k →
    impl_PartsOf.l1 k acc L (L.length : Int) i = some (c_fin (acc ++ c_full (L.drop i))) := by
  induction d with
  | zero =>
    intro k i acc hd hi ha hk
    obtain ⟨k, rfl⟩ := c_up (k := k) (by omega)
    rw [impl_PartsOf.l1, if_neg (by omega), List.drop_eq_nil_of_le (by omega)]
    have : c_full [] = [] := rfl
    rw [this, List.append_nil]
    exact c_fin_some _
  | succ d ih =>
    intro k i acc hd hi ha hk
    obtain ⟨k, rfl⟩ := c_up (k := k) (by omega)
    have hi' : i < L.length := by omega
    have hr : rdOf ByteArray.empty L (i : Int) = L[i] := by simp [rdOf, List.getD_eq_getElem?_getD, hi']
    rw [impl_PartsOf.l1, if_pos (by omega), if_pos (by omega), if_pos (by omega), hr, c_toList, c_inc (n := 9223372036854775807) (by omega) (by omega), List.drop_eq_getElem_cons hi']
    by_cases h : L[i].data.toList = []
    · rw [if_pos h, ih k (i + 1) acc (by omega) (by omega) (by omega) (by omega)]
      have : c_full (L[i] :: L.drop (i + 1)) = c_full (L.drop (i + 1)) := c_full_neg _ _ h
      rw [this]
    · rw [if_neg h, if_pos (by omega), ih k (i + 1) _ (by omega) (by omega) (by rw [List.length_append]; simp; omega) (by omega)]
      have : c_full (L[i] :: L.drop (i + 1)) = L[i] :: c_full (L.drop (i + 1)) := c_full_pos _ _ h
      rw [this, List.append_assoc]
      rfl
def c_sp : ByteArray := ⟨#[32]⟩
def c_pieces (s : ByteArray) : List ByteArray := Lib.splitB c_sp 0 (Lib.countB s c_sp) s
theorem c_pieces_len (s : ByteArray) : (c_pieces s).length ≤ s.size + 1 := by
  have h := Lib.splitB_all c_sp (by decide) 0 _ s rfl
  have hle := Lib.countB_le c_sp (by decide) s.size s (Nat.le_refl _)
  unfold c_pieces
  omega
theorem c_partsl_impl (s : ByteArray) (hs : s.size ≤ 600) (d : Nat) : ∀ (k i : Nat), s.size - i = d → i ≤ s.size → d + s.size + 10 ≤ k →
    impl_PartsOf.l0 k s [] i = some (c_out (c_fine (s.data.toList.drop i)) (c_full (c_pieces s))) := by
  induction d with
  | zero =>
    intro k i hd hi hk
    obtain ⟨k, rfl⟩ := c_up (k := k) (by omega)
    have hsp : strings_Split.f s (⟨#[32]⟩ : ByteArray) = some (c_pieces s) := by
      unfold strings_Split.f
      rw [if_pos ⟨by omega, by decide⟩]
      rfl
    have hpl := c_pieces_len s
    have h1 := c_partsl1 (c_pieces s) (by omega) (c_pieces s).length k 0 [] (by omega) (by omega) (by simp) (by omega)
    rw [impl_PartsOf.l0, if_neg (by omega), c_drop_end s i (by omega), hsp, Option.bind_some]
    simpa [c_out, c_fine] using h1
  | succ d ih =>
    intro k i hd hi hk
    obtain ⟨k, rfl⟩ := c_up (k := k) (by omega)
    obtain ⟨c, hc, hdr⟩ := c_drop s i (by omega)
    have hcb := c.toNat_lt
    rw [impl_PartsOf.l0, if_pos (by omega), if_pos (by omega), hc, c_wrap (by omega) (by omega), c_within, Option.bind_some, hdr, c_fine_cons]
    by_cases h : 32 ≤ c.toNat ∧ c.toNat ≤ 126
    · rw [if_pos (c_in_iff.2 ⟨by omega, by omega⟩), c_inc (n := 9223372036854775807) (by omega) (by omega), ih k (i + 1) (by omega) (by omega) (by omega), decide_eq_true h, Bool.true_and]
    · rw [if_neg (c_in_no.2 (by omega)), decide_eq_false h]
      rfl
theorem c_words_none : ∀ (l cur : List UInt8), (∀ (k : Nat), l[k]? ≠ some 32) → c_words cur l = if cur ++ l = [] then [] else [cur ++ l]
  | [], cur, _ => by rw [c_words, List.append_nil]
  | c :: t, cur, h => by
    have h0 : c ≠ 32 := fun e => h 0 (by rw [e]; rfl)
    rw [c_words, if_neg h0, c_words_none t (cur ++ [c]) (fun k => by simpa using h (k + 1)), List.append_assoc]
    rfl
theorem c_words_some : ∀ (l cur : List UInt8) (o : Nat), l[o]? = some 32 → (∀ (k : Nat), k < o → l[k]? ≠ some 32) → c_words cur l = if cur ++ l.take o = [] then c_words [] (l.drop (o + 1)) else (cur ++ l.take o) :: c_words [] (l.drop (o + 1))
  | [], cur, o, h, _ => by simp at h
  | c :: t, cur, 0, h, _ => by
    have h0 : c = 32 := by simpa using h
    rw [c_words, if_pos h0]
    simp
  | c :: t, cur, o + 1, h, hn => by
    have h0 : c ≠ 32 := fun e => hn 0 (by omega) (by rw [e]; rfl)
    rw [c_words, if_neg h0, c_words_some t (cur ++ [c]) o (by simpa using h) (fun k hk => by simpa using hn (k + 1) (by omega)), List.append_assoc]
    rfl
theorem c_pieces_words : ∀ (n : Nat) (s : ByteArray), s.size ≤ n → c_full (c_pieces s) = (c_words [] s.data.toList).map c_mk
  | n, s, hn => by
    have hix : Lib.indexB s c_sp = Lib.indexByte s.data.toList 32 := Lib.index_one _ _
    rcases Lib.indexB_cases s c_sp with h | ⟨i, h, hroom⟩
    · have hno := Lib.indexByte_none (hix.symm.trans h)
      rw [c_words_none _ _ hno]
      unfold c_pieces
      rw [Lib.splitB_miss _ _ _ _ h, List.nil_append]
      by_cases he : s.data.toList = []
      · rw [if_pos he]
        rw [c_full_neg _ _ he]
        rfl
      · rw [if_neg he]
        rw [c_full_pos _ _ he, List.map_cons, List.map_nil, c_mk_of]
        rfl
    · obtain ⟨h32, hfirst⟩ := Lib.indexByte_some (hix.symm.trans h)
      have hsz : c_sp.size = 1 := rfl
      rw [hsz] at hroom
      have hc := Lib.countB_hit s c_sp i (by decide) h
      have hsize : (s.extract (i + c_sp.size) s.size).size = s.size - (i + 1) := by rw [ByteArray.size_extract, hsz]; omega
      cases n with
      | zero => omega
      | succ n =>
        have ih := c_pieces_words n (s.extract (i + c_sp.size) s.size) (by omega)
        rw [c_words_some _ _ _ h32 hfirst]
        have hp : c_pieces s = s.extract 0 (i + 0) :: c_pieces (s.extract (i + c_sp.size) s.size) := by
          unfold c_pieces
          rw [hc, Nat.add_comm, Lib.splitB_hit _ _ _ _ _ h]
        have hd : (s.extract (i + c_sp.size) s.size).data.toList = s.data.toList.drop (i + 1) := by
          rw [c_extract, hsz, List.take_of_length_le (by rw [data_length]; exact Nat.le_refl _)]
        have ht : (s.extract 0 (i + 0)).data.toList = s.data.toList.take i := by rw [c_extract, List.drop_zero, Nat.add_zero]
        rw [hd] at ih
        rw [hp, List.nil_append]
        by_cases he : s.data.toList.take i = []
        · rw [if_pos he, ← ih]
          exact c_full_neg _ _ (ht.trans he)
        · rw [if_neg he, List.map_cons, ← ih]
          rw [c_full_pos _ _ (fun e => he (ht.symm.trans e)), ← ht, c_mk_of]
theorem c_parts_impl (s : ByteArray) (k : Nat) (hk : 2000 ≤ k) : impl_PartsOf.f k s = some (c_parts s) := by
  unfold impl_PartsOf.f c_parts
  by_cases h : (s.size : Int) > 600
  · rw [if_pos h, if_pos h]
  · rw [if_neg h, if_neg h, ← c_pieces_words s.size s (Nat.le_refl _)]
    have := c_partsl_impl s (by omega) s.size k 0 (by omega) (by omega) (by omega)
    simpa using this
theorem c_parts_len (s : ByteArray) : (c_parts s).1.length ≤ 10 := by
  unfold c_parts c_out c_fin
  split
  · simp
  · split
    · simp
    · split
      · simp
      · dsimp only
        omega
def c_marksL : List ByteArray := [⟨#[109, 49]⟩, ⟨#[109, 50]⟩, ⟨#[109, 51]⟩, ⟨#[109, 52]⟩, ⟨#[109, 53]⟩, ⟨#[109, 54]⟩, ⟨#[109, 55]⟩, ⟨#[109, 56]⟩, ⟨#[109, 57]⟩, ⟨#[109, 49, 48]⟩]
def c_mark (i : Nat) : ByteArray := c_marksL.getD i ByteArray.empty
def c_marks (n : Nat) : List ByteArray := (List.range n).map c_mark
theorem c_marks_len (n : Nat) : (c_marks n).length = n := by simp [c_marks]
theorem c_marks_succ (n : Nat) : c_marks (n + 1) = c_marks n ++ [c_mark n] := by simp [c_marks, List.range_succ]

/-! ### lines -/
def c_spl : List UInt8 → List UInt8 → List (List UInt8)
  | cur, [] => [cur]
  | cur, c :: t => if c = 10 then cur :: c_spl [] t else c_spl (cur ++ [c]) t
def c_lineL : List UInt8 → List UInt8 → List (List UInt8)
  | cur, [] => if cur = [] then [] else [cur]
  | cur, c :: t => if c = 10 then cur :: c_lineL [] t else c_lineL (cur ++ [c]) t
theorem c_spl_ne : ∀ (l cur : List UInt8), c_spl cur l ≠ []
  | [], cur => by rw [c_spl]; exact List.cons_ne_nil _ _
  | c :: t, cur => by
    rw [c_spl]
    split
    · exact List.cons_ne_nil _ _
    · exact c_spl_ne t _
theorem c_lineL_spl : ∀ (l cur : List UInt8), c_lineL cur l = if (c_spl cur l).getLast? = some [] then (c_spl cur l).dropLast else c_spl cur l
  | [], cur => by
    rw [c_lineL, c_spl]
    by_cases h : cur = []
    · subst h; rfl
    · rw [if_neg h, if_neg (by simpa using h)]
  | c :: t, cur => by
    rw [c_lineL, c_spl]
    by_cases hc : c = 10
    · rw [if_pos hc, if_pos hc, c_lineL_spl t []]
      have hne := c_spl_ne t []
      generalize c_spl [] t = p at hne ⊢
      cases p with
      | nil => exact absurd rfl hne
      | cons a q =>
        rw [List.getLast?_cons_cons]
        by_cases h : (a :: q).getLast? = some []
        · rw [if_pos h, if_pos h]
          rfl
        · rw [if_neg h, if_neg h]
    · rw [if_neg hc, if_neg hc]
      exact c_lineL_spl t _
theorem c_lineL_len : ∀ (l cur : List UInt8), (c_lineL cur l).length ≤ l.length + 1
  | [], cur => by
    rw [c_lineL]
    split <;> simp
  | c :: t, cur => by
    rw [c_lineL]
    split
    · have := c_lineL_len t []
      rw [List.length_cons, List.length_cons]
      omega
    · have := c_lineL_len t (cur ++ [c])
      rw [List.length_cons]
      omega
theorem c_spl_none : ∀ (l cur : List UInt8), (∀ (k : Nat), l[k]? ≠ some 10) → c_spl cur l = [cur ++ l]
  | [], cur, _ => by rw [c_spl, List.append_nil]
  | c :: t, cur, h => by
    have h0 : c ≠ 10 := fun e => h 0 (by rw [e]; rfl)
    rw [c_spl, if_neg h0, c_spl_none t (cur ++ [c]) (fun k => by simpa using h (k + 1)), List.append_assoc]
    rfl
theorem c_spl_some : ∀ (l cur : List UInt8) (o : Nat), l[o]? = some 10 → (∀ (k : Nat), k < o → l[k]? ≠ some 10) → c_spl cur l = (cur ++ l.take o) :: c_spl [] (l.drop (o + 1))
  | [], cur, o, h, _ => by simp at h
  | c :: t, cur, 0, h, _ => by
    have h0 : c = 10 := by simpa using h
    rw [c_spl, if_pos h0]
    simp
  | c :: t, cur, o + 1, h, hn => by
    have h0 : c ≠ 10 := fun e => hn 0 (by omega) (by rw [e]; rfl)
    rw [c_spl, if_neg h0, c_spl_some t (cur ++ [c]) o (by simpa using h) (fun k hk => by simpa using hn (k + 1) (by omega)), List.append_assoc]
    rfl
def c_nl : ByteArray := ⟨#[10]⟩
def c_pcs (s : ByteArray) : List ByteArray := Lib.splitB c_nl 0 (Lib.countB s c_nl) s
theorem c_pcs_spl : ∀ (n : Nat) (s : ByteArray), s.size ≤ n → c_pcs s = (c_spl [] s.data.toList).map c_mk
  | n, s, hn => by
    have hix : Lib.indexB s c_nl = Lib.indexByte s.data.toList 10 := Lib.index_one _ _
    rcases Lib.indexB_cases s c_nl with h | ⟨i, h, hroom⟩
    · have hno := Lib.indexByte_none (hix.symm.trans h)
      rw [c_spl_none _ _ hno]
      unfold c_pcs
      rw [Lib.splitB_miss _ _ _ _ h, List.nil_append, List.map_cons, List.map_nil, c_mk_of]
    · obtain ⟨h10, hfirst⟩ := Lib.indexByte_some (hix.symm.trans h)
      have hsz : c_nl.size = 1 := rfl
      rw [hsz] at hroom
      have hc := Lib.countB_hit s c_nl i (by decide) h
      have hsize : (s.extract (i + c_nl.size) s.size).size = s.size - (i + 1) := by rw [ByteArray.size_extract, hsz]; omega
      cases n with
      | zero => omega
      | succ n =>
        have ih := c_pcs_spl n (s.extract (i + c_nl.size) s.size) (by omega)
        rw [c_spl_some _ _ _ h10 hfirst]
        have hp : c_pcs s = s.extract 0 (i + 0) :: c_pcs (s.extract (i + c_nl.size) s.size) := by
          unfold c_pcs
          rw [hc, Nat.add_comm, Lib.splitB_hit _ _ _ _ _ h]
        have hd : (s.extract (i + c_nl.size) s.size).data.toList = s.data.toList.drop (i + 1) := by
          rw [c_extract, hsz, List.take_of_length_le (by rw [data_length]; exact Nat.le_refl _)]
        have ht : (s.extract 0 (i + 0)).data.toList = s.data.toList.take i := by rw [c_extract, List.drop_zero, Nat.add_zero]
        rw [hd] at ih
        rw [hp, List.nil_append, List.map_cons, ← ih, ← ht, c_mk_of]
def c_lines (s : ByteArray) : List ByteArray := (c_lineL [] s.data.toList).map c_mk
theorem c_lines_len (s : ByteArray) : (c_lines s).length ≤ s.size + 1 := by
  have := c_lineL_len s.data.toList []
  rw [data_length] at this
  unfold c_lines
  rw [List.length_map]
  exact this
theorem c_mk_nil {l : List UInt8} : c_mk l = c_mk [] ↔ l = [] := by
  constructor
  · intro h
    have := congrArg (fun b : ByteArray => b.data.toList) h
    simpa [c_mk_data] using this
  · intro h
    rw [h]
theorem c_lines_of (s : ByteArray) : c_lines s = if (c_pcs s).getLast? = some (c_mk []) then (c_pcs s).dropLast else c_pcs s := by
  unfold c_lines
  rw [c_pcs_spl s.size s (Nat.le_refl _), c_lineL_spl, List.getLast?_map]
  have hne := c_spl_ne s.data.toList []
  generalize c_spl [] s.data.toList = p at hne ⊢
  cases hp : p.getLast? with
  | none => exact absurd (List.getLast?_eq_none_iff.1 hp) hne
  | some x =>
    rw [Option.map_some]
    by_cases h : x = []
    · rw [if_pos (by rw [h]), if_pos (by rw [h]), List.map_dropLast]
    · rw [if_neg (fun e => h (Option.some.inj e)), if_neg (fun e => h (c_mk_nil.1 (Option.some.inj e)))]

/-! ### readdec -/
def c_dv (n : Nat) (l : List UInt8) : Nat := l.foldl (fun m c => 10 * m + (c.toNat - 48)) n
theorem c_dv_nil (n : Nat) : c_dv n [] = n := rfl
theorem c_dv_cons (n : Nat) (c : UInt8) (r : List UInt8) : c_dv n (c :: r) = c_dv (10 * n + (c.toNat - 48)) r := by
  unfold c_dv
  rw [List.foldl_cons]
def c_digits (l : List UInt8) : Prop := ∀ c ∈ l, 48 ≤ c.toNat ∧ c.toNat ≤ 57
theorem c_dv_app (a b : List UInt8) : ∀ n, c_dv n (a ++ b) = c_dv (c_dv n a) b := by
  induction a with
  | nil => intro n; rfl
  | cons c r ih => intro n; exact ih _
theorem c_dig (u : Nat) (h : u < 10) : (UInt8.ofNat (48 + u)).toNat = 48 + u := by
  rw [UInt8.toNat_ofNat']; omega
theorem c_dv_dec (u : Nat) : c_dv 0 (Lib.decDigits u) = u := by
  induction u using Nat.strongRecOn with
  | _ u ih =>
    rw [Lib.decDigits]
    by_cases h : u < 10
    · rw [dif_pos h]
      show 10 * 0 + ((UInt8.ofNat (48 + u)).toNat - 48) = u
      rw [c_dig u h]; omega
    · rw [dif_neg h, c_dv_app, ih (u / 10) (by omega)]
      show 10 * (u / 10) + ((UInt8.ofNat (48 + u % 10)).toNat - 48) = u
      rw [c_dig _ (by omega)]; omega
theorem c_digits_dec (u : Nat) : c_digits (Lib.decDigits u) := by
  induction u using Nat.strongRecOn with
  | _ u ih =>
    intro c hc
    rw [Lib.decDigits] at hc
    by_cases h : u < 10
    · rw [dif_pos h, List.mem_singleton] at hc
      rw [hc, c_dig u h]; omega
    · rw [dif_neg h, List.mem_append, List.mem_singleton] at hc
      rcases hc with hc | hc
      · exact ih (u / 10) (by omega) c hc
      · rw [hc, c_dig _ (by omega)]; omega
theorem c_dv_le (l : List UInt8) (hd : c_digits l) : ∀ n, c_dv n l + 1 ≤ (n + 1) * 10 ^ l.length := by
  induction l with
  | nil => intro n; rw [c_dv_nil]; simp
  | cons c r ih =>
    intro n
    have hc := hd c List.mem_cons_self
    have h := ih (fun x hx => hd x (List.mem_cons_of_mem _ hx)) (10 * n + (c.toNat - 48))
    show c_dv (10 * n + (c.toNat - 48)) r + 1 ≤ _
    rw [List.length_cons, Nat.pow_succ]
    have h2 : (10 * n + (c.toNat - 48) + 1) * 10 ^ r.length ≤ ((n + 1) * 10) * 10 ^ r.length := Nat.mul_le_mul_right _ (by omega)
    have h3 : ((n + 1) * 10) * 10 ^ r.length = (n + 1) * (10 ^ r.length * 10) := by rw [Nat.mul_assoc, Nat.mul_comm 10]
    omega
theorem c_dv_ge (l : List UInt8) : ∀ n, n ≤ c_dv n l := by
  induction l with
  | nil => intro n; exact Nat.le_refl _
  | cons x t ih =>
    intro n
    have h := ih (10 * n + (x.toNat - 48))
    rw [c_dv_cons]
    omega
/-- Figures are parsed to their value. -/
theorem c_parse (l : List UInt8) (hd : c_digits l) : ∀ n, c_dv n l < 18446744073709551616 → Lib.parseUint10 n l = .ok (c_dv n l) := by
  induction l with
  | nil => intro n _; rfl
  | cons c r ih =>
    intro n hn
    have hc := hd c List.mem_cons_self
    have hr : c_digits r := fun x hx => hd x (List.mem_cons_of_mem _ hx)
    have hge := c_dv_ge r (10 * n + (c.toNat - 48))
    rw [c_dv_cons] at hn ⊢
    rw [Lib.parseUint10, if_pos hc, if_neg (by omega), if_neg (by omega), show n * 10 + (c.toNat - 48) = 10 * n + (c.toNat - 48) by omega]
    exact ih hr _ hn
theorem c_atoi (l : List UInt8) (hd : c_digits l) (hne : l ≠ []) (hv : c_dv 0 l < 9223372036854775808) : Lib.atoiAll l = .ok (c_dv 0 l : Int) := by
  cases l with
  | nil => exact absurd rfl hne
  | cons c r =>
    have hc := hd c List.mem_cons_self
    unfold Lib.atoiAll
    simp only
    rw [if_neg (c := c.toNat = 43 ∨ c.toNat = 45) (by omega), Lib.parseMag, if_neg (by simp), c_parse _ hd 0 (by omega)]
    simp only
    rw [if_neg (by omega), if_neg (by omega), if_neg (by omega)]
/-- The numeral's own value. -/
theorem c_itoa (v : Int) (h0 : 0 ≤ v) : c_digits (Lib.itoa v) ∧ c_dv 0 (Lib.itoa v) = v.toNat ∧ Lib.itoa v ≠ [] ∧ (Lib.itoa v).length = Lib.nDigits v.toNat := by
  have e : Lib.itoa v = Lib.decDigits v.toNat := by unfold Lib.itoa; rw [if_neg (by omega)]
  rw [e]
  refine ⟨c_digits_dec _, c_dv_dec _, fun h => ?_, Lib.decDigits_length _⟩
  have h1 := congrArg List.length h
  rw [Lib.decDigits_length, List.length_nil] at h1
  have h2 := Lib.nDigits_pos v.toNat
  omega
/-- The reading in plain words: figures alone, no more than 10^9, and its own numeral. -/
theorem c_read_yes (s : ByteArray) (v : Int) (h0 : 0 ≤ v) (h1 : v ≤ 1000000000) (h : Lib.itoa v = s.data.toList) : c_read s = (v, true) := by
  obtain ⟨a, b, c, _⟩ := c_itoa v h0
  have ha : Lib.atoiAll s.data.toList = .ok v := by
    rw [← h, c_atoi _ a c (by rw [b]; omega), b]
    congr 1
    omega
  rw [c_read_ok ha, if_pos ⟨⟨h0, h1⟩, h⟩]
theorem c_read_no (s : ByteArray) (h : ∀ v : Int, 0 ≤ v → v ≤ 1000000000 → Lib.itoa v ≠ s.data.toList) : c_read s = (0, false) := by
  unfold c_read
  split
  · rename_i v _
    rw [if_neg (fun x => h v x.1.1 x.1.2 x.2)]
  · rfl

/-! ### within_s -/
theorem c_l01In (n l h : Int) : spec_l01In.f n l h = some (c_in n l h) := by
  unfold spec_l01In.f c_in
  by_cases h0 : n ≥ l
  · rw [if_pos h0]; simp [h0]
  · rw [if_neg h0]; simp; omega

/-! ### nameof -/
theorem c_names : spec_l05Names.f = impl_opNames.f := rfl
theorem c_names_some : ∃ l, impl_opNames.f = some l ∧ l.length = 18 := ⟨_, rfl, rfl⟩
theorem c_nameOf_same (a : Int) : spec_NameOf.f a = impl_NameOf.f a := by
  simp only [spec_NameOf.f, impl_NameOf.f, impl_hasOp.f, c_l01In, c_within, c_names, Option.bind_some]
theorem c_nameOf_some (a : Int) : ∃ r, impl_NameOf.f a = some r := by
  obtain ⟨l, hl, hn⟩ := c_names_some
  simp only [impl_NameOf.f, impl_hasOp.f, c_within, Option.bind_some, hl]
  by_cases h : c_in a 0 17 = true
  · rw [if_pos h]
    rw [c_in_iff] at h
    rw [if_pos h.1, if_pos (by omega)]
    exact ⟨_, rfl⟩
  · rw [if_neg h]
    exact ⟨_, rfl⟩

/-! ### names -/
def c_namesL : List ByteArray := (impl_opNames.f).getD []
theorem c_namesL_eq : impl_opNames.f = some c_namesL := rfl
theorem c_namesL_len : c_namesL.length = 18 := rfl
def c_nm : List (List UInt8) := c_namesL.map fun x => x.data.toList
theorem c_nm_len : c_nm.length = 18 := rfl
theorem c_nm_inj : ∀ i j : Fin 18, (c_nm.getD i.val [] == c_nm.getD j.val []) = (i.val == j.val) := by decide +kernel
theorem c_nm_ne : ∀ i : Fin 18, c_nm.getD i.val [] ≠ [] := by decide +kernel
def c_name (a : Int) : ByteArray := if c_in a 0 17 = true then rdOf ByteArray.empty c_namesL a else (⟨#[]⟩ : ByteArray)
theorem c_nameOf (a : Int) : impl_NameOf.f a = some (c_name a) := by
  unfold c_name
  simp only [impl_NameOf.f, impl_hasOp.f, c_within, Option.bind_some, c_namesL_eq]
  by_cases h : c_in a 0 17 = true
  · have h' := c_in_iff.1 h
    rw [if_pos h, if_pos h, if_pos h'.1, if_pos (by rw [c_namesL_len]; omega)]
  · rw [if_neg h, if_neg h]
theorem c_name_val {a : Nat} (h : a < 18) : (c_name (a : Int)).toList = c_nm.getD a [] := by
  unfold c_name
  rw [if_pos (c_in_iff.2 ⟨by omega, by omega⟩), c_toList]
  unfold rdOf c_nm
  rw [Int.toNat_natCast, List.getD_eq_getElem?_getD, List.getD_eq_getElem?_getD, List.getElem?_map, List.getElem?_eq_getElem (by rw [c_namesL_len]; omega)]
  rfl

/-! ### lists -/
theorem c_inc' {i n : Nat} (h : i < n) (hn : n ≤ 9223372036854775807) : wrap64 ((i : Int) + 1) = ((i + 1 : Nat) : Int) := by rw [c_wrap (by omega) (by omega)]; omega

/-! ### instr -/
theorem c_rdI {l : List S62} {i : Nat} (h : i < l.length) : rd_T62 l (i : Int) = l[i]'h := by
  unfold rd_T62
  simp [h]
def c_okI (x : S62) : Bool := c_in x.f0 0 255 && c_in x.f1 0 255
def c_codeOk (l : List S62) : Bool := l.all c_okI && decide (l.length ≤ 60)

/-! ### asm -/
def c_opOf (b : ByteArray) : Option Nat := (List.range 18).find? fun i => c_nm.getD i [] == b.data.toList
theorem c_opOf_self : ∀ i : Fin 18, (List.range 18).find? (fun j => c_nm.getD j [] == c_nm.getD i.val []) = some i.val := by decide +kernel
theorem c_opOf_some {b : ByteArray} {i : Nat} (h : c_opOf b = some i) : i < 18 ∧ c_nm.getD i [] = b.data.toList := by
  have h1 := List.find?_some h
  have h2 := List.mem_of_find?_eq_some h
  exact ⟨by simpa using h2, by simpa using h1⟩
theorem c_opOf_none {b : ByteArray} (h : c_opOf b = none) (i : Nat) (hi : i < 18) : c_nm.getD i [] ≠ b.data.toList := by
  have := List.find?_eq_none.1 h i (by simpa using hi)
  simpa using this
def c_insX (o : Option Nat) (r : Int × Bool) : Option S62 := if r.2 = true ∧ r.1 ≤ 255 then o.map (fun (op : Nat) => (⟨(op : Int), r.1⟩ : S62)) else none
def c_ins : List ByteArray → Option S62
  | [] => none
  | [a] => c_insX (c_opOf a) (0, true)
  | [a, b] => c_insX (c_opOf a) (c_read b)
  | _ => none
def c_asmS (i : Nat) (out : List S62) (go : List S62 → List S62 × Int) (p : List ByteArray × Bool) : List S62 × Int :=
  if p.2 = true then (if p.1 = [] then go out else match c_ins p.1 with
    | some x => if out.length = 60 then ([], (i : Int) + 1) else go (out ++ [x])
    | none => ([], (i : Int) + 1)) else ([], (i : Int) + 1)
def c_asm : List ByteArray → Nat → List S62 → List S62 × Int
  | [], _, out => (out, 0)
  | s :: r, i, out => c_asmS i out (c_asm r (i + 1)) (c_parts s)
def c_assemble (s : ByteArray) : List S62 × Int := c_asm (c_lines s) 0 []
theorem c_asm_len : ∀ (L : List ByteArray) (i : Nat) (out : List S62), out.length ≤ 60 → (c_asm L i out).1.length ≤ 60
  | [], _, out, h => h
  | s :: r, i, out, h => by
    rw [c_asm]
    unfold c_asmS
    split
    · split
      · exact c_asm_len r _ _ h
      · split
        · split
          · exact Nat.zero_le _
          · exact c_asm_len r _ _ (by rw [List.length_append, List.length_singleton]; omega)
        · exact Nat.zero_le _
    · exact Nat.zero_le _

/-! ### asm_i -/
theorem c_words_mem : ∀ (l cur w : List UInt8), w ∈ c_words cur l → w.length ≤ cur.length + l.length
  | [], cur, w, h => by
    rw [c_words] at h
    split at h
    · cases h
    · rw [List.mem_singleton.1 h]
      simp
  | c :: t, cur, w, h => by
    rw [c_words] at h
    rw [List.length_cons]
    split at h
    · split at h
      · have := c_words_mem t [] w h
        rw [List.length_nil] at this
        omega
      · rcases List.mem_cons.1 h with rfl | h
        · omega
        · have := c_words_mem t [] w h
          rw [List.length_nil] at this
          omega
    · have := c_words_mem t _ w h
      rw [List.length_append, List.length_singleton] at this
      omega
theorem c_parts_mem (s : ByteArray) (b : ByteArray) (h : b ∈ (c_parts s).1) : b.size ≤ 600 := by
  unfold c_parts at h
  by_cases h6 : (s.size : Int) > 600
  · rw [if_pos h6] at h
    cases h
  · rw [if_neg h6] at h
    unfold c_out at h
    split at h
    · cases h
    · unfold c_fin at h
      split at h
      · cases h
      · obtain ⟨w, hw, rfl⟩ := List.mem_map.1 h
        have := c_words_mem _ _ _ hw
        rw [data_length, List.length_nil] at this
        rw [← data_length, c_mk_data]
        omega
theorem c_opOf_iff {a : ByteArray} {i : Nat} (h : i < 18) : (rdOf ByteArray.empty c_namesL (i : Int)).toList = a.toList ↔ c_opOf a = some i := by
  have hv : (rdOf ByteArray.empty c_namesL (i : Int)).toList = c_nm.getD i [] := by
    rw [← c_name_val h]
    unfold c_name
    rw [if_pos (c_in_iff.2 ⟨by omega, by omega⟩)]
  rw [hv, c_toList]
  constructor
  · intro e
    unfold c_opOf
    rw [← e]
    exact c_opOf_self ⟨i, h⟩
  · intro e
    exact (c_opOf_some e).2
def c_opI (o : Option Nat) (i : Nat) (op : Int) : Int := match o with
  | some j => if i ≤ j then (j : Int) else op
  | none => op
theorem c_opI_at (i : Nat) (op : Int) : c_opI (some i) (i + 1) (i : Int) = c_opI (some i) i op := by
  unfold c_opI
  dsimp only
  rw [if_neg (by omega), if_pos (Nat.le_refl _)]
theorem c_opI_off {o : Option Nat} {i : Nat} (op : Int) (h : ¬ o = some i) : c_opI o (i + 1) op = c_opI o i op := by
  unfold c_opI
  cases o with
  | none => rfl
  | some j =>
    dsimp only
    by_cases hj : i + 1 ≤ j
    · rw [if_pos hj, if_pos (by omega)]
    · rw [if_neg hj, if_neg (fun hx => h (by rw [show j = i by omega]))]
theorem c_opI_end {o : Option Nat} (op : Int) (h : ∀ j, o = some j → j < 18) : c_opI o 18 op = op := by
  unfold c_opI
  cases o with
  | none => rfl
  | some j =>
    dsimp only
    rw [if_neg (by have := h j rfl; omega)]
def c_riE (p : List ByteArray) (op : Int) : Option (Int × Int × Bool) := if (p.length : Int) = 2 then (if 1 < (p.length : Int) then ((impl_ReadDecimal.f (rdOf ByteArray.empty p 1)).bind fun bt245 => (if bt245.2 = true then (if op ≥ 0 then (if bt245.1 ≤ 255 then (some (op, bt245.1, decide ((p.length : Int) ≤ 2))) else (some (op, bt245.1, false))) else (some (op, bt245.1, false))) else (some (op, bt245.1, false)))) else (none)) else (if op ≥ 0 then (if (0 : Int) ≤ 255 then (some (op, 0, decide ((p.length : Int) ≤ 2))) else (some (op, 0, false))) else (some (op, 0, false)))
theorem c_ri_l (p : List ByteArray) (hp : 0 < p.length) (d : Nat) : ∀ (k i : Nat) (op : Int), 18 - i = d → i ≤ 18 → d < k → impl_readInstr.l0 k p c_namesL 18 i op 0 = c_riE p (c_opI (c_opOf (rdOf ByteArray.empty p 0)) i op) := by
  induction d with
  | zero =>
    intro k i op hd hi hk
    obtain ⟨k, rfl⟩ := c_up (k := k) (by omega)
    have hi' : i = 18 := by omega
    subst hi'
    rw [impl_readInstr.l0, if_neg (by omega), c_opI_end op (fun j h => (c_opOf_some h).1)]
    rfl
  | succ d ih =>
    intro k i op hd hi hk
    obtain ⟨k, rfl⟩ := c_up (k := k) (by omega)
    rw [impl_readInstr.l0, if_pos (by omega), if_pos (by omega), if_pos (by rw [c_namesL_len]; omega), if_pos (by omega), c_inc (n := 9223372036854775807) (by omega) (by omega)]
    by_cases h : (rdOf ByteArray.empty c_namesL (i : Int)).toList = (rdOf ByteArray.empty p 0).toList
    · have e := (c_opOf_iff (by omega)).1 h
      rw [if_pos h, ih k (i + 1) _ (by omega) (by omega) (by omega), e, c_opI_at i op]
    · have e : ¬ c_opOf (rdOf ByteArray.empty p 0) = some i := fun x => h ((c_opOf_iff (by omega)).2 x)
      rw [if_neg h, ih k (i + 1) _ (by omega) (by omega) (by omega), c_opI_off op e]
theorem c_insX_some (j : Nat) (r : Int × Bool) : c_insX (some j) r = if r.2 = true ∧ r.1 ≤ 255 then some ⟨(j : Int), r.1⟩ else none := rfl
theorem c_insX_none (r : Int × Bool) : c_insX none r = none := by
  unfold c_insX
  split <;> rfl
theorem c_opI_first (o : Option Nat) : (∃ j, o = some j ∧ c_opI o 0 (-1) = (j : Int)) ∨ (o = none ∧ c_opI o 0 (-1) = -1) := by
  cases o with
  | none => exact .inr ⟨rfl, rfl⟩
  | some j =>
    refine .inl ⟨j, rfl, ?_⟩
    unfold c_opI
    dsimp only
    rw [if_pos (Nat.zero_le j)]
theorem c_ri (p : List ByteArray) (hp : 0 < p.length) (hs : ∀ b ∈ p, b.size ≤ 600) (k : Nat) (hk : 20 < k) : ∃ a b ok, impl_readInstr.f k p = some (a, b, ok) ∧ c_ins p = if ok = true then some ⟨a, b⟩ else none := by
  have hl : (c_namesL.length : Int) = 18 := by rw [c_namesL_len]; rfl
  unfold impl_readInstr.f
  rw [c_namesL_eq, Option.bind_some, hl]
  have := c_ri_l p hp 18 k 0 (-1) (by omega) (by omega) (by omega)
  rw [show ((0 : Nat) : Int) = 0 from rfl] at this
  rw [this]
  clear this
  match p, hp, hs with
  | [a], _, _ =>
    have hr : rdOf ByteArray.empty [a] 0 = a := rfl
    rw [hr]
    unfold c_riE
    rw [if_neg (by simp), c_ins]
    rcases c_opI_first (c_opOf a) with ⟨j, e, e2⟩ | ⟨e, e2⟩
    · rw [e2, e, c_insX_some, if_pos (by omega), if_pos (by omega)]
      exact ⟨_, _, _, rfl, rfl⟩
    · rw [e2, e, c_insX_none, if_neg (by omega)]
      exact ⟨_, _, _, rfl, rfl⟩
  | [a, b], _, hs =>
    have hr : rdOf ByteArray.empty [a, b] 0 = a := rfl
    have hr1 : rdOf ByteArray.empty [a, b] 1 = b := rfl
    have hb := hs b (by simp)
    rw [hr]
    unfold c_riE
    rw [hr1, if_pos (by simp), if_pos (by simp), c_ins]
    unfold impl_ReadDecimal.f
    rw [if_pos (by omega), Option.bind_some]
    rcases c_opI_first (c_opOf a) with ⟨j, e, e2⟩ | ⟨e, e2⟩
    · rw [e2, e, c_insX_some, if_pos (show (j : Int) ≥ 0 by omega)]
      by_cases h1 : (c_read b).2 = true
      · rw [if_pos h1]
        by_cases h2 : (c_read b).1 ≤ 255
        · rw [if_pos h2, if_pos ⟨h1, h2⟩]
          exact ⟨_, _, _, rfl, rfl⟩
        · rw [if_neg h2, if_neg (fun x => h2 x.2)]
          exact ⟨_, _, _, rfl, rfl⟩
      · rw [if_neg h1, if_neg (fun x => h1 x.1)]
        exact ⟨_, _, _, rfl, rfl⟩
    · rw [e2, e, c_insX_none, if_neg (show ¬ (-1 : Int) ≥ 0 by omega)]
      refine ⟨-1, (c_read b).1, false, ?_, rfl⟩
      split <;> rfl
  | a :: b :: c :: r, _, _ =>
    unfold c_riE
    have h3 : ¬ (((a :: b :: c :: r).length : Nat) : Int) ≤ 2 := by simp; omega
    rw [if_neg (by simp; omega), decide_eq_false h3]
    refine ⟨c_opI (c_opOf (rdOf ByteArray.empty (a :: b :: c :: r) 0)) 0 (-1), 0, false, ?_, rfl⟩
    rw [if_pos (show (0 : Int) ≤ 255 by omega)]
    split <;> rfl
theorem c_linesOf (s : ByteArray) (hs : s.size < 4294967281) : impl_linesOf.f s = some (c_lines s) := by
  have hsp : strings_Split.f s (⟨#[10]⟩ : ByteArray) = some (c_pcs s) := by
    unfold strings_Split.f
    rw [if_pos ⟨hs, by decide⟩]
    rfl
  have hpos : 0 < (c_pcs s).length := by
    rw [c_pcs_spl s.size s (Nat.le_refl _), List.length_map]
    exact List.length_pos_iff.2 (c_spl_ne _ _)
  have hle : (c_pcs s).length ≤ s.size + 1 := by
    have h := Lib.splitB_all c_nl (by decide) 0 _ s rfl
    have hle := Lib.countB_le c_nl (by decide) s.size s (Nat.le_refl _)
    unfold c_pcs
    omega
  unfold impl_linesOf.f
  rw [hsp, Option.bind_some, c_lines_of]
  generalize c_pcs s = L at hpos hle
  have hw : wrap64 ((L.length : Int) - 1) = ((L.length - 1 : Nat) : Int) := by rw [c_wrap (by omega) (by omega)]; omega
  have hg : L.getLast? = some (rdOf ByteArray.empty L ((L.length - 1 : Nat) : Int)) := by
    rw [List.getLast?_eq_getElem?]
    unfold rdOf
    rw [Int.toNat_natCast, List.getD_eq_getElem?_getD, List.getElem?_eq_getElem (by omega)]
    rfl
  rw [hw, if_pos (by omega), if_pos (by omega), hg, Int.toNat_natCast]
  by_cases h : (rdOf ByteArray.empty L ((L.length - 1 : Nat) : Int)).toList = ([] : List UInt8)
  · rw [if_pos h, if_pos (by omega), if_pos, List.dropLast_eq_take]
    congr 1
    apply c_ext
    rw [c_mk_data, ← c_toList]
    exact h
  · rw [if_neg h, if_neg]
    intro e
    apply h
    rw [Option.some.inj e, c_toList, c_mk_data]
theorem c_asm_impl (L : List ByteArray) (hL : L.length ≤ 9223372036854775806) (d : Nat) : ∀ (k i : Nat) (out : List S62), L.length - i = d → i ≤ L.length → out.length ≤ 60 → 2 * d + 2100 ≤ k → impl_Assemble.l0 k out L (L.length : Int) i = some (c_asm (L.drop i) i out) := by
  induction d with
  | zero =>
    intro k i out hd hi ho hk
    obtain ⟨k, rfl⟩ := c_up (k := k) (by omega)
    rw [impl_Assemble.l0, if_neg (by omega), List.drop_eq_nil_of_le (by omega)]
    rfl
  | succ d ih =>
    intro k i out hd hi ho hk
    obtain ⟨k, rfl⟩ : ∃ m, k = m + 2 := ⟨k - 2, by omega⟩
    have hi' : i < L.length := by omega
    have hr : rdOf ByteArray.empty L (i : Int) = L[i] := by simp [rdOf, List.getD_eq_getElem?_getD, hi']
    have hw : wrap64 ((i : Int) + 1) = (i : Int) + 1 := c_wrap (by omega) (by omega)
    have hm := c_parts_mem L[i]
    rw [impl_Assemble.l0, if_pos (by omega), if_pos (by omega), if_pos (by omega), hr, c_parts_impl _ _ (by omega), Option.bind_some, List.drop_eq_getElem_cons hi', c_asm]
    generalize c_parts L[i] = P at hm ⊢
    unfold c_asmS
    by_cases hok : P.2 = true
    · rw [if_pos hok, if_pos hok, impl_Assemble.j1]
      by_cases he : P.1 = []
      · rw [if_pos he, if_pos (by rw [he]; rfl), hw]
        exact ih k (i + 1) out (by omega) (by omega) ho (by omega)
      · have hp : 0 < P.1.length := List.length_pos_iff.2 he
        obtain ⟨a, b, ok, e1, e2⟩ := c_ri P.1 hp hm k (by omega)
        rw [if_neg he, if_neg (by rw [beq_iff_eq]; omega), if_pos hok, e1, Option.bind_some, e2, hw]
        by_cases h : ok = true
        · rw [if_pos h, if_pos h]
          dsimp only
          by_cases h6 : out.length = 60
          · rw [if_pos h6, if_pos (by omega)]
          · rw [if_neg h6, if_neg (by omega), if_pos (by omega)]
            exact ih k (i + 1) _ (by omega) (by omega) (by rw [List.length_append, List.length_singleton]; omega) (by omega)
        · rw [if_neg h, if_neg h]
    · rw [if_neg hok, if_neg hok, impl_Assemble.j1, if_neg (by decide), if_neg hok, hw]
theorem c_Assemble_impl (s : ByteArray) (hs : s.size ≤ 1048576) (k : Nat) (hk : 2100000 ≤ k) : impl_Assemble.f k s = some (c_assemble s) := by
  have hl := c_lines_len s
  unfold impl_Assemble.f c_assemble
  rw [c_linesOf s (by omega), Option.bind_some]
  have := c_asm_impl (c_lines s) (by omega) (c_lines s).length k 0 [] (by omega) (by omega) (by simp) (by omega)
  simpa using this

/-! ### decimal -/
def c_decFin (b : Bool) (l : List UInt8) : ByteArray := if b = true then ⟨((45 : UInt8) :: l).toArray⟩ else ⟨l.toArray⟩
theorem c_decApp (a b : List UInt8) : (⟨a.toArray⟩ ++ ⟨b.toArray⟩ : ByteArray) = ⟨(a ++ b).toArray⟩ := by
  apply ByteArray.ext
  simp
theorem c_decSize (l : List UInt8) : (⟨l.toArray⟩ : ByteArray).size = l.length := by simp [ByteArray.size]
theorem c_decZero (b : Bool) (l : List UInt8) (hl : l.length ≤ 1000) : spec_Decimal.l0 1 0 b ⟨l.toArray⟩ = some (c_decFin b l) := by
  unfold spec_Decimal.l0 c_decFin
  rw [if_pos rfl]
  cases b
  · simp
  · rw [if_pos rfl, if_pos rfl, c_decSize, if_pos (by omega)]
    exact congrArg some (c_decApp [45] l)
theorem c_decStep (k : Nat) (x : Int) (b : Bool) (l : List UInt8) (hx : x ≠ 0) (h0 : -9223372036854775808 ≤ x) (h1 : x ≤ 9223372036854775807) (hl : l.length ≤ 1000) :
    spec_Decimal.l0 (k + 1) x b ⟨l.toArray⟩ = spec_Decimal.l0 k (Int.tdiv x 10) b ⟨(UInt8.ofNat (48 + x.natAbs % 10) :: l).toArray⟩ := by
  have hw : wrap64 (Int.tdiv x 10) = Int.tdiv x 10 := by
    have hq : (Int.tdiv x 10).natAbs = x.natAbs / 10 := by rw [Int.natAbs_tdiv]; rfl
    unfold wrap64; omega
  have key : ∀ d : Int, d = ((x.natAbs % 10 : Nat) : Int) → (spec_l01Figure.f d).bind (fun t105 => ((some (([t105] : List Int) : List Int)).bind fun y106 => (if (strOfNums y106).size + (⟨l.toArray⟩ : ByteArray).size ≤ 9223372036854775807 then (spec_Decimal.l0 k (wrap64 (Int.tdiv x 10)) b ((strOfNums y106) ++ ⟨l.toArray⟩)) else (none)))) = spec_Decimal.l0 k (Int.tdiv x 10) b ⟨(UInt8.ofNat (48 + x.natAbs % 10) :: l).toArray⟩ := by
    intro d hd
    have hd10 : d < 10 := by omega
    have hd0 : 0 ≤ d := by omega
    unfold spec_l01Figure.f
    rw [if_pos hd10]
    have hn : (wrap64 (48 + d)) % 256 = ((48 + x.natAbs % 10 : Nat) : Int) := by
      have : wrap64 (48 + d) = 48 + d := by unfold wrap64; omega
      rw [this]; omega
    rw [hn, Option.bind_some, Option.bind_some, strOfNums_size, c_decSize, if_pos (by simp; omega), hw]
    exact congrArg _ (c_decApp [UInt8.ofNat (48 + x.natAbs % 10)] l)
  conv => lhs; unfold spec_Decimal.l0
  rw [if_neg hx]
  split
  · rename_i hn
    refine key _ ?_
    have hq : (Int.tmod x 10).natAbs = x.natAbs % 10 := by rw [Int.natAbs_tmod]; rfl
    unfold wrap64; omega
  · rename_i hn
    refine key _ ?_
    have hq : (Int.tmod x 10).natAbs = x.natAbs % 10 := by rw [Int.natAbs_tmod]; rfl
    omega
theorem c_decMain (u : Nat) : ∀ (x : Int) (b : Bool) (l : List UInt8), x.natAbs = u → u ≠ 0 → -9223372036854775808 ≤ x → x ≤ 9223372036854775807 → l.length + Lib.nDigits u ≤ 1000 → spec_Decimal.l0 (Lib.nDigits u + 1) x b ⟨l.toArray⟩ = some (c_decFin b (Lib.decDigits u ++ l)) := by
  induction u using Nat.strongRecOn with
  | _ u ih =>
    intro x b l hu h0 hm hM hl
    have hp := Lib.nDigits_pos u
    have hq : (Int.tdiv x 10).natAbs = x.natAbs / 10 := by rw [Int.natAbs_tdiv]; rfl
    by_cases h : u < 10
    · have hz : Int.tdiv x 10 = 0 := by omega
      rw [Lib.nDigits_small h, c_decStep 1 x b l (by omega) hm hM (by omega), hz, c_decZero b _ (by simp; omega)]
      rw [Lib.decDigits, dif_pos h, show x.natAbs % 10 = u by omega]
      rfl
    · have hk := ih (u / 10) (by omega) (Int.tdiv x 10) b (UInt8.ofNat (48 + x.natAbs % 10) :: l) (by omega) (by omega) (by omega) (by omega) (by rw [Lib.nDigits_big h] at hl; simp; omega)
      rw [Lib.nDigits_big h, c_decStep _ x b l (by omega) hm hM (by omega), hk, show x.natAbs = u from hu]
      conv => rhs; rw [Lib.decDigits, dif_neg h]
      simp
theorem c_decimal0 (n : Int) (h0 : -9223372036854775808 ≤ n) (h1 : n ≤ 9223372036854775807) : ∃ k, k ≤ 21 ∧ spec_Decimal.f k n = some ⟨(Lib.itoa n).toArray⟩ := by
  unfold spec_Decimal.f
  by_cases hz : n = 0
  · subst hz
    refine ⟨0, by omega, ?_⟩
    rw [if_pos rfl, show Lib.itoa 0 = Lib.decDigits 0 from rfl, Lib.decDigits, dif_pos (by omega)]
    rfl
  · have hd := Lib.nDigits_le20 n.natAbs (by omega)
    have hk := c_decMain n.natAbs n (decide (n < 0)) [] rfl (by omega) h0 h1 (by simp; omega)
    refine ⟨Lib.nDigits n.natAbs + 1, by omega, ?_⟩
    rw [if_neg hz]
    refine hk.trans ?_
    unfold c_decFin Lib.itoa
    rw [List.append_nil]
    by_cases hn : n < 0
    · rw [if_pos (decide_eq_true hn), if_pos hn]
    · rw [if_neg (by simp [hn]), if_neg hn, show n.toNat = n.natAbs by omega]
theorem c_decimal (n : Int) (h0 : -9223372036854775808 ≤ n) (h1 : n ≤ 9223372036854775807) (k : Nat) (hk : 21 ≤ k) : spec_Decimal.f k n = some ⟨(Lib.itoa n).toArray⟩ := by
  obtain ⟨k0, h, e⟩ := c_decimal0 n h0 h1
  induction k with
  | zero => omega
  | succ m ih =>
    by_cases c : k0 = m + 1
    · rw [← c]; exact e
    · by_cases c2 : 21 ≤ m
      · exact spec_Decimal.mono _ _ _ (ih c2)
      · have hm : ∀ j, k0 ≤ j → spec_Decimal.f j n = some ⟨(Lib.itoa n).toArray⟩ := by
          intro j hj
          induction j with
          | zero => rw [show k0 = 0 by omega] at e; exact e
          | succ q iq =>
            by_cases c3 : k0 = q + 1
            · rw [← c3]; exact e
            · exact spec_Decimal.mono _ _ _ (iq (by omega))
        exact hm _ (by omega)

/-! ### readdec_s -/
theorem c_btd (s : ByteArray) (i : Nat) (h : i < s.size) : bt s (i : Int) = ((s.data.toList[i]'(by rw [Array.length_toList]; exact h)).toNat : Int) := by
  rw [c_bt s i h]
  rfl
/-- The reference's loop. -/
theorem c_loop (s : ByteArray) (hs : s.size ≤ 10) (d : Nat) : ∀ i : Nat, s.size - i = d → i ≤ s.size → c_digits (s.data.toList.take i) → ∃ k0, ∀ k, k0 ≤ k → spec_ReadDecimal.l0 k s (c_dv 0 (s.data.toList.take i)) (i : Int) = some (c_read s) := by
  have hlen : s.data.toList.length = s.size := Array.length_toList
  induction d with
  | zero =>
    intro i hd hi hg
    have hall : s.data.toList.take i = s.data.toList := List.take_of_length_le (by omega)
    rw [hall] at hg ⊢
    have hb := c_dv_le _ hg 0
    have hp : (0 + 1) * 10 ^ s.data.toList.length ≤ 10 ^ 10 := by rw [Nat.zero_add, Nat.one_mul]; exact Nat.pow_le_pow_right (by omega) (by omega)
    have hv : c_dv 0 s.data.toList < 10000000000 := by omega
    obtain ⟨k1, hmono⟩ : ∃ k1, ∀ k, k1 ≤ k → spec_Decimal.f k (c_dv 0 s.data.toList : Int) = some ⟨(Lib.itoa (c_dv 0 s.data.toList : Int)).toArray⟩ := ⟨21, fun k hk => c_decimal _ (by omega) (by omega) k hk⟩
    refine ⟨k1 + 1, fun k hk => ?_⟩
    obtain ⟨k, rfl⟩ : ∃ m, k = m + 1 := ⟨k - 1, by omega⟩
    rw [spec_ReadDecimal.l0, if_neg (by omega)]
    by_cases hbig : (c_dv 0 s.data.toList : Int) > 1000000000
    · rw [if_pos hbig, c_read_no]
      intro v h0 h1 e
      obtain ⟨_, b, _, _⟩ := c_itoa v h0
      rw [e] at b
      omega
    · rw [if_neg hbig, hmono k (by omega), Option.bind_some]
      by_cases he : Lib.itoa (c_dv 0 s.data.toList : Int) = s.data.toList
      · rw [if_pos (by rw [ByteArray.toList_eq, ByteArray.toList_eq]; simpa using he), c_read_yes s _ (by omega) (by omega) he]
      · rw [if_neg (by rw [ByteArray.toList_eq, ByteArray.toList_eq]; simpa using he), c_read_no]
        intro v h0 h1 e
        obtain ⟨_, b, _, _⟩ := c_itoa v h0
        rw [e] at b
        apply he
        rw [b, show ((v.toNat : Nat) : Int) = v by omega]
        exact e
  | succ d ih =>
    intro i hd hi hg
    have hib : i < s.data.toList.length := by omega
    by_cases hc : 48 ≤ (s.data.toList[i]).toNat ∧ (s.data.toList[i]).toNat ≤ 57
    · have htk : s.data.toList.take (i + 1) = s.data.toList.take i ++ [s.data.toList[i]] := by rw [List.take_succ_eq_append_getElem hib]
      obtain ⟨k0, hk0⟩ := ih (i + 1) (by omega) (by omega) (by
        rw [htk]
        intro c hcm
        rcases List.mem_append.1 hcm with hcm | hcm
        · exact hg c hcm
        · rw [List.mem_singleton.1 hcm]; exact hc)
      refine ⟨k0 + 1, fun k hk => ?_⟩
      obtain ⟨k, rfl⟩ : ∃ m, k = m + 1 := ⟨k - 1, by omega⟩
      have hb := c_dv_le _ hg 0
      have hp : (0 + 1) * 10 ^ (s.data.toList.take i).length ≤ 10 ^ 10 := by rw [Nat.zero_add, Nat.one_mul]; exact Nat.pow_le_pow_right (by omega) (by rw [List.length_take]; omega)
      have hv : c_dv 0 (s.data.toList.take i) < 10000000000 := by omega
      have hval : c_dv 0 (s.data.toList.take (i + 1)) = 10 * c_dv 0 (s.data.toList.take i) + ((s.data.toList[i]).toNat - 48) := by rw [htk, c_dv_app]; rfl
      have hk0' := hk0 k (by omega)
      rw [hval] at hk0'
      rw [spec_ReadDecimal.l0, if_pos (by omega), if_pos (by omega), c_btd s i (by omega), if_neg (by omega), if_neg (by omega)]
      generalize c_dv 0 (s.data.toList.take i) = m at hv hk0' ⊢
      generalize (s.data.toList[i]).toNat = c at hc hk0' ⊢
      rw [c_wrap (n := 10 * (m : Int)) (by omega) (by omega), c_wrap (n := (c : Int)) (by omega) (by omega), c_wrap (n := 10 * (m : Int) + (c : Int)) (by omega) (by omega), c_wrap (n := 10 * (m : Int) + (c : Int) - 48) (by omega) (by omega), c_wrap (n := (i : Int) + 1) (by omega) (by omega)]
      rw [show 10 * (m : Int) + (c : Int) - 48 = ((10 * m + (c - 48) : Nat) : Int) by omega]
      exact hk0'
    · refine ⟨1, fun k hk => ?_⟩
      obtain ⟨k, rfl⟩ : ∃ m, k = m + 1 := ⟨k - 1, by omega⟩
      have hno : c_read s = (0, false) := by
        apply c_read_no
        intro v h0 h1 e
        obtain ⟨a, _, _, _⟩ := c_itoa v h0
        rw [e] at a
        exact hc (a _ (List.getElem_mem _))
      rw [spec_ReadDecimal.l0, if_pos (by omega), if_pos (by omega), c_btd s i (by omega), hno]
      by_cases h48 : (((s.data.toList[i]).toNat : Nat) : Int) < 48
      · rw [if_pos h48]
      · rw [if_neg h48, if_pos (by omega)]
theorem c_nd10 (n : Nat) : ∀ u : Nat, u < 10 ^ n → 0 < n → Lib.nDigits u ≤ n := by
  induction n with
  | zero => intro u _ h; omega
  | succ n ih =>
    intro u hu _
    by_cases h : u < 10
    · rw [Lib.nDigits_small h]; omega
    · rw [Lib.nDigits_big h]
      have hp : 10 ^ (n + 1) = 10 ^ n * 10 := Nat.pow_succ ..
      have hn : 0 < n := by
        rcases Nat.eq_zero_or_pos n with rfl | hn
        · simp at hu; omega
        · exact hn
      have := ih (u / 10) (by omega) hn
      omega
theorem c_nd (u : Nat) (h : u ≤ 1000000000) : Lib.nDigits u ≤ 10 := c_nd10 10 u (by omega) (by omega)
theorem c_ReadDecimal (s : ByteArray) : ∃ k, spec_ReadDecimal.f k s = some (c_read s) := by
  have hlen : s.data.toList.length = s.size := Array.length_toList
  unfold spec_ReadDecimal.f
  by_cases h : (s.size : Int) > 10
  · refine ⟨0, ?_⟩
    rw [if_pos h, c_read_no]
    intro v h0 h1 e
    obtain ⟨_, _, _, b⟩ := c_itoa v h0
    rw [e, hlen] at b
    have : Lib.nDigits v.toNat ≤ 10 := by
      exact c_nd v.toNat (by omega)
    omega
  · obtain ⟨k0, hk⟩ := c_loop s (by omega) s.size 0 rfl (by omega) (by intro c hc; simp at hc)
    refine ⟨k0, ?_⟩
    rw [if_neg h]
    exact hk k0 (Nat.le_refl _)

/-! ### asm_s -/
theorem c_ReadDecimal_all (s : ByteArray) : ∃ k0, ∀ k, k0 ≤ k → spec_ReadDecimal.f k s = some (c_read s) := by
  obtain ⟨k1, h1⟩ := c_ReadDecimal s
  refine ⟨k1, fun k hk => ?_⟩
  induction k with
  | zero => rw [show k1 = 0 by omega] at h1; exact h1
  | succ n ih =>
    by_cases h : k1 = n + 1
    · rw [← h]; exact h1
    · exact spec_ReadDecimal.mono _ _ _ (ih (by omega))
theorem c_l05Lines_l (s : ByteArray) (hs : s.size ≤ 1048576) (d : Nat) : ∀ (k b i : Nat) (acc : List ByteArray), s.size - i = d → i ≤ s.size → b ≤ i → acc.length ≤ i → d < k →
    spec_l05Lines.l0 k s acc b i = some (acc ++ (c_lineL ((s.data.toList.take i).drop b) (s.data.toList.drop i)).map c_mk) := by
  have hlen : s.data.toList.length = s.size := data_length s
  induction d with
  | zero =>
    intro k b i acc hd hi hb ha hk
    obtain ⟨k, rfl⟩ := c_up (k := k) (by omega)
    have he : i = s.size := by omega
    subst he
    rw [spec_l05Lines.l0, if_neg (by omega), c_drop_end s s.size (by omega), c_lineL]
    by_cases h : b < s.size
    · have hne : ¬ (s.data.toList.take s.size).drop b = [] := by
        intro e
        have := congrArg List.length e
        rw [List.length_drop, List.length_take, hlen, List.length_nil] at this
        omega
      have hx : s.extract ((b : Int)).toNat s.size = c_mk ((s.data.toList.take s.size).drop b) := c_ext (by rw [c_extract, c_mk_data, Int.toNat_natCast])
      rw [if_pos (by omega), if_pos (by omega), if_pos (by omega), if_pos (by omega), if_neg hne, hx]
      rfl
    · have hne : (s.data.toList.take s.size).drop b = [] := List.drop_eq_nil_of_le (by rw [List.length_take, hlen]; omega)
      rw [if_neg (by omega), if_pos hne, List.map_nil, List.append_nil]
  | succ d ih =>
    intro k b i acc hd hi hb ha hk
    obtain ⟨k, rfl⟩ := c_up (k := k) (by omega)
    obtain ⟨c, hc, hdr⟩ := c_drop s i (by omega)
    have hcb := c.toNat_lt
    rw [spec_l05Lines.l0, if_pos (by omega), if_pos (by omega), hc, hdr, c_lineL, c_inc (n := 9223372036854775807) (by omega) (by omega)]
    by_cases h : c = 10
    · have h3n : c.toNat = 10 := by rw [h]; rfl
      have hcur : (s.data.toList.take (i + 1)).drop (i + 1) = [] := List.drop_eq_nil_of_le (by rw [List.length_take, hlen]; omega)
      have hx : s.extract ((b : Int)).toNat ((i : Int)).toNat = c_mk ((s.data.toList.take i).drop b) := c_ext (by rw [c_extract, c_mk_data, Int.toNat_natCast, Int.toNat_natCast])
      rw [if_pos (by omega), if_pos (by omega), if_pos (by omega), if_pos (by omega), if_pos (by omega), if_pos h, hx,
        ih k (i + 1) (i + 1) _ (by omega) (by omega) (by omega) (by rw [List.length_append]; simp; omega) (by omega), hcur]
      simp
    · have hn : ¬ (c.toNat : Int) = 10 := fun e => h (UInt8.toNat_inj.1 (by show c.toNat = 10; omega))
      have hcur : (s.data.toList.take (i + 1)).drop b = (s.data.toList.take i).drop b ++ [c] := by
        have hget : s.data.toList[i]? = some c := by
          have := congrArg List.head? hdr
          rwa [List.head?_drop, List.head?_cons] at this
        rw [List.take_add_one, hget, Option.toList_some, List.drop_append_of_le_length (by rw [List.length_take, hlen]; omega)]
      rw [if_neg hn, if_neg h, ih k b (i + 1) acc (by omega) (by omega) (by omega) (by omega) (by omega), hcur]
theorem c_l05Lines (s : ByteArray) (hs : s.size ≤ 1048576) (k : Nat) (hk : s.size < k) : spec_l05Lines.f k s = some (c_lines s) := by
  unfold spec_l05Lines.f c_lines
  have := c_l05Lines_l s hs s.size k 0 0 [] (by omega) (by omega) (Nat.le_refl _) (by simp) hk
  simpa using this
theorem c_sl_no (p : List ByteArray) (hp : 0 < p.length) (hno : ∀ i, c_opOf (rdOf ByteArray.empty p 0) = some i → (p.length : Int) > 2) (d : Nat) : ∀ (k i : Nat), 18 - i = d → i ≤ 18 → 2 * d < k → spec_l05Line.l0 k p c_namesL i = some (0, 0, false) := by
  have hl : (c_namesL.length : Int) = 18 := by rw [c_namesL_len]; rfl
  induction d with
  | zero =>
    intro k i hd hi hk
    obtain ⟨k, rfl⟩ := c_up (k := k) (by omega)
    rw [spec_l05Line.l0, if_neg (by omega)]
  | succ d ih =>
    intro k i hd hi hk
    obtain ⟨k, rfl⟩ : ∃ m, k = m + 2 := ⟨k - 2, by omega⟩
    rw [spec_l05Line.l0, if_pos (by omega), if_pos (by omega), if_pos (by omega)]
    have := ih k (i + 1) (by omega) (by omega) (by omega)
    by_cases h : (rdOf ByteArray.empty c_namesL (i : Int)).toList = (rdOf ByteArray.empty p 0).toList
    · rw [if_pos h, decide_eq_true (hno i ((c_opOf_iff (by omega)).1 h)), spec_l05Line.j1, if_pos rfl, c_inc (n := 9223372036854775807) (by omega) (by omega)]
      exact this
    · rw [if_neg h, spec_l05Line.j1, if_pos rfl, c_inc (n := 9223372036854775807) (by omega) (by omega)]
      exact this
def c_slE (k : Nat) (p : List ByteArray) (j : Nat) : Option (Int × Int × Bool) := if (p.length : Int) = 2 then (if 1 < (p.length : Int) then ((spec_ReadDecimal.f k (rdOf ByteArray.empty p 1)).bind fun bt142 => (if bt142.2 = true then (some ((j : Int), bt142.1, decide (bt142.1 ≤ 255))) else (some ((j : Int), bt142.1, false)))) else (none)) else (some ((j : Int), 0, decide ((0 : Int) ≤ 255)))
theorem c_sl_yes (p : List ByteArray) (hp : 0 < p.length) (j : Nat) (hj : c_opOf (rdOf ByteArray.empty p 0) = some j) (hs : ¬ (p.length : Int) > 2) (d : Nat) : ∀ (k i : Nat), j - i = d → i ≤ j → spec_l05Line.l0 (k + 2 * d + 2) p c_namesL i = c_slE k p j := by
  have hl : (c_namesL.length : Int) = 18 := by rw [c_namesL_len]; rfl
  have hj18 := (c_opOf_some hj).1
  induction d with
  | zero =>
    intro k i hd hi
    have hij : i = j := by omega
    subst hij
    have h := (c_opOf_iff hj18).2 hj
    rw [Nat.mul_zero, Nat.add_zero, spec_l05Line.l0, if_pos (by omega), if_pos (by omega), if_pos (by omega), if_pos h, decide_eq_false hs, spec_l05Line.j1, if_neg (by decide)]
    rfl
  | succ d ih =>
    intro k i hd hi
    have e : k + 2 * (d + 1) + 2 = (k + 2 * d + 2) + 1 + 1 := by omega
    have h : ¬ (rdOf ByteArray.empty c_namesL (i : Int)).toList = (rdOf ByteArray.empty p 0).toList := by
      intro x
      have y := (c_opOf_iff (by omega)).1 x
      rw [hj] at y
      have := Option.some.inj y
      omega
    rw [e, spec_l05Line.l0, if_pos (by omega), if_pos (by omega), if_pos (by omega), if_neg h, spec_l05Line.j1, if_pos rfl, c_inc (n := 9223372036854775807) (by omega) (by omega)]
    exact ih k (i + 1) (by omega) (by omega)
theorem c_specNames : spec_l05Names.f = some c_namesL := rfl
theorem c_sl (p : List ByteArray) (hp : 0 < p.length) : ∃ k0, ∀ k, k0 ≤ k → ∃ a b ok, spec_l05Line.f k p = some (a, b, ok) ∧ c_ins p = if ok = true then some ⟨a, b⟩ else none := by
  obtain ⟨k1, h1⟩ := c_ReadDecimal_all (rdOf ByteArray.empty p 1)
  refine ⟨k1 + 60, fun k hk => ?_⟩
  unfold spec_l05Line.f
  rw [c_specNames, Option.bind_some]
  by_cases hno : ∀ i, c_opOf (rdOf ByteArray.empty p 0) = some i → (p.length : Int) > 2
  · refine ⟨0, 0, false, c_sl_no p hp hno 18 k 0 rfl (by omega) (by omega), ?_⟩
    rw [if_neg (by decide)]
    match p, hp, hno with
    | [a], _, hno =>
      have hr : rdOf ByteArray.empty [a] 0 = a := rfl
      rw [hr] at hno
      rw [c_ins]
      cases ho : c_opOf a with
      | none => exact c_insX_none _
      | some j => exact absurd (hno j ho) (by simp)
    | [a, b], _, hno =>
      have hr : rdOf ByteArray.empty [a, b] 0 = a := rfl
      rw [hr] at hno
      rw [c_ins]
      cases ho : c_opOf a with
      | none => exact c_insX_none _
      | some j => exact absurd (hno j ho) (by simp)
    | a :: b :: c :: r, _, _ => rfl
  · obtain ⟨j, hno⟩ := Classical.not_forall.1 hno
    obtain ⟨hj, hs⟩ := Classical.not_imp.1 hno
    have hj18 := (c_opOf_some hj).1
    have := c_sl_yes p hp j hj hs j (k - 2 * j - 2) 0 (by omega) (by omega)
    rw [show k - 2 * j - 2 + 2 * j + 2 = k by omega, show ((0 : Nat) : Int) = 0 from rfl] at this
    rw [this]
    have hq := h1 (k - 2 * j - 2) (by omega)
    unfold c_slE
    rw [hq]
    clear this hq h1 hno
    match p, hp, hj, hs with
    | [a], _, hj, _ =>
      have hr : rdOf ByteArray.empty [a] 0 = a := rfl
      rw [hr] at hj
      rw [if_neg (by simp), c_ins, hj]
      exact ⟨_, _, _, rfl, rfl⟩
    | [a, b], _, hj, _ =>
      have hr : rdOf ByteArray.empty [a, b] 0 = a := rfl
      have hr1 : rdOf ByteArray.empty [a, b] 1 = b := rfl
      rw [hr] at hj
      rw [if_pos (by simp), if_pos (by simp), Option.bind_some, hr1, c_ins, hj, c_insX_some]
      by_cases e1 : (c_read b).2 = true
      · rw [if_pos e1]
        by_cases e2 : (c_read b).1 ≤ 255
        · rw [if_pos ⟨e1, e2⟩, decide_eq_true e2]
          exact ⟨_, _, _, rfl, rfl⟩
        · rw [if_neg (fun x => e2 x.2), decide_eq_false e2]
          exact ⟨_, _, _, rfl, rfl⟩
      · rw [if_neg e1, if_neg (fun x => e1 x.1)]
        exact ⟨_, _, _, rfl, rfl⟩
    | a :: b :: c :: r, _, _, hs => exact absurd (show ((((a :: b :: c :: r).length : Nat) : Int) > 2) by simp; omega) hs
theorem c_asm_spec (L : List ByteArray) (hL : L.length ≤ 9223372036854775806) (d : Nat) : ∀ (i : Nat) (out : List S62), L.length - i = d → i ≤ L.length → out.length ≤ 60 → ∃ k0, ∀ k, k0 ≤ k → spec_Assemble.l0 k L out i = some (c_asm (L.drop i) i out) := by
  induction d with
  | zero =>
    intro i out hd hi ho
    refine ⟨1, fun k hk => ?_⟩
    obtain ⟨k, rfl⟩ := c_up (k := k) (by omega)
    rw [spec_Assemble.l0, if_neg (by omega), List.drop_eq_nil_of_le (by omega)]
    rfl
  | succ d ih =>
    intro i out hd hi ho
    have hi' : i < L.length := by omega
    have hr : rdOf ByteArray.empty L (i : Int) = L[i] := by simp [rdOf, List.getD_eq_getElem?_getD, hi']
    have hw : wrap64 ((i : Int) + 1) = (i : Int) + 1 := c_wrap (by omega) (by omega)
    have head : ∀ k, 2000 ≤ k → spec_Assemble.l0 (k + 2) L out i = (if (c_parts L[i]).2 = true then (spec_Assemble.j1 (k + 1) L out i (c_parts L[i]).1 (c_parts L[i]).2 (((c_parts L[i]).1.length : Int) == 0)) else (spec_Assemble.j1 (k + 1) L out i (c_parts L[i]).1 (c_parts L[i]).2 false)) := by
      intro k hk
      rw [spec_Assemble.l0, if_pos (by omega), if_pos (by omega), hr, c_parts_spec _ _ (by omega), Option.bind_some]
    rw [List.drop_eq_getElem_cons hi', c_asm]
    generalize c_parts L[i] = P at head ⊢
    unfold c_asmS
    by_cases hok : P.2 = true
    · by_cases he : P.1 = []
      · obtain ⟨k0, h0⟩ := ih (i + 1) out (by omega) (by omega) ho
        refine ⟨k0 + 2002, fun k hk => ?_⟩
        obtain ⟨k, rfl⟩ : ∃ m, k = m + 2 := ⟨k - 2, by omega⟩
        rw [head k (by omega), if_pos hok, if_pos hok, if_pos he, spec_Assemble.j1, if_pos (by rw [he]; rfl), hw]
        exact h0 k (by omega)
      · have hp : 0 < P.1.length := List.length_pos_iff.2 he
        obtain ⟨k1, h1⟩ := c_sl P.1 hp
        have go : ∀ k, 2000 ≤ k → spec_Assemble.l0 (k + 2) L out i = ((spec_l05Line.f k P.1).bind fun bt155 => (if bt155.2.2 = true then (if (out.length : Int) = 60 then (some ((([] : List (S62))), wrap64 ((i : Int) + 1))) else (if out.length < 8796093022208 then (spec_Assemble.l0 k L (out ++ [(⟨bt155.1, bt155.2.1⟩ : S62)]) (wrap64 ((i : Int) + 1))) else (none))) else (some ((([] : List (S62))), wrap64 ((i : Int) + 1))))) := by
          intro k hk
          rw [head k hk, if_pos hok, spec_Assemble.j1, if_neg (by rw [beq_iff_eq]; omega), if_pos hok]
        rw [if_pos hok, if_neg he]
        cases hi2 : c_ins P.1 with
        | none =>
          refine ⟨k1 + 2002, fun k hk => ?_⟩
          obtain ⟨k, rfl⟩ : ∃ m, k = m + 2 := ⟨k - 2, by omega⟩
          obtain ⟨a, b, ok, e1, e2⟩ := h1 k (by omega)
          rw [go k (by omega), e1, Option.bind_some, hw]
          rw [hi2] at e2
          by_cases h : ok = true
          · rw [if_pos h] at e2
            cases e2
          · rw [if_neg h]
        | some x =>
          dsimp only
          by_cases h6 : out.length = 60
          · refine ⟨k1 + 2002, fun k hk => ?_⟩
            obtain ⟨k, rfl⟩ : ∃ m, k = m + 2 := ⟨k - 2, by omega⟩
            obtain ⟨a, b, ok, e1, e2⟩ := h1 k (by omega)
            rw [go k (by omega), e1, Option.bind_some, hw, if_pos h6]
            rw [hi2] at e2
            by_cases h : ok = true
            · rw [if_pos h, if_pos (by omega)]
            · rw [if_neg h] at e2
              cases e2
          · obtain ⟨k0, h0⟩ := ih (i + 1) (out ++ [x]) (by omega) (by omega) (by rw [List.length_append, List.length_singleton]; omega)
            refine ⟨k0 + k1 + 2002, fun k hk => ?_⟩
            obtain ⟨k, rfl⟩ : ∃ m, k = m + 2 := ⟨k - 2, by omega⟩
            obtain ⟨a, b, ok, e1, e2⟩ := h1 k (by omega)
            rw [go k (by omega), e1, Option.bind_some, hw, if_neg h6]
            rw [hi2] at e2
            by_cases h : ok = true
            · rw [if_pos h] at e2
              rw [if_pos h, if_neg (by omega), if_pos (by omega), ← Option.some.inj e2]
              exact h0 k (by omega)
            · rw [if_neg h] at e2
              cases e2
    · refine ⟨2002, fun k hk => ?_⟩
      obtain ⟨k, rfl⟩ : ∃ m, k = m + 2 := ⟨k - 2, by omega⟩
      rw [head k (by omega), if_neg hok, if_neg hok, spec_Assemble.j1, if_neg (by decide), if_neg hok, hw]
theorem c_Assemble_spec (s : ByteArray) (hs : s.size ≤ 1048576) : ∃ k0, ∀ k, k0 ≤ k → spec_Assemble.f k s = some (c_assemble s) := by
  have hl := c_lines_len s
  obtain ⟨k0, h0⟩ := c_asm_spec (c_lines s) (by omega) (c_lines s).length 0 [] (by omega) (by omega) (by simp)
  refine ⟨k0 + 1048577, fun k hk => ?_⟩
  unfold spec_Assemble.f c_assemble
  rw [c_l05Lines s hs k (by omega), Option.bind_some]
  have := h0 k (by omega)
  simpa using this

/-! ### codeok -/
theorem c_codeOk_spec (l : List S62) (hl : l.length ≤ 1048576) (d : Nat) : ∀ (k i : Nat), l.length - i = d → i ≤ l.length → d < k → spec_CodeOk.l0 k l i = some ((l.drop i).all c_okI && decide (l.length ≤ 60)) := by
  induction d with
  | zero =>
    intro k i hd hi hk
    obtain ⟨k, rfl⟩ := c_up (k := k) (by omega)
    rw [spec_CodeOk.l0, if_neg (by omega), List.drop_eq_nil_of_le (by omega)]
    simp
    omega
  | succ d ih =>
    intro k i hd hi hk
    obtain ⟨k, rfl⟩ := c_up (k := k) (by omega)
    have hd' : l.drop i = l[i]'(by omega) :: l.drop (i + 1) := List.drop_eq_getElem_cons (by omega)
    rw [spec_CodeOk.l0, if_pos (by omega), if_pos (by omega), c_rdI (by omega), c_l01In, c_l01In, c_inc' (n := l.length) (by omega) (by omega), ih k (i + 1) (by omega) (by omega) (by omega), hd', List.all_cons]
    simp only [Option.bind_some, c_okI]
    cases c_in (l[i]'(by omega)).f0 0 255 <;> cases c_in (l[i]'(by omega)).f1 0 255 <;> simp
theorem c_codeOk_impl (l : List S62) (hl : l.length ≤ 1048576) (d : Nat) : ∀ (k i : Nat), l.length - i = d → i ≤ l.length → d < k → impl_CodeOk.l0 k l l (l.length : Int) i = some ((l.drop i).all c_okI && decide (l.length ≤ 60)) := by
  induction d with
  | zero =>
    intro k i hd hi hk
    obtain ⟨k, rfl⟩ := c_up (k := k) (by omega)
    rw [impl_CodeOk.l0, if_neg (by omega), List.drop_eq_nil_of_le (by omega)]
    simp
    omega
  | succ d ih =>
    intro k i hd hi hk
    obtain ⟨k, rfl⟩ := c_up (k := k) (by omega)
    have hd' : l.drop i = l[i]'(by omega) :: l.drop (i + 1) := List.drop_eq_getElem_cons (by omega)
    rw [impl_CodeOk.l0, if_pos (by omega), if_pos (by omega), if_pos (by omega), c_rdI (by omega), c_within, c_within, c_inc' (n := l.length) (by omega) (by omega), ih k (i + 1) (by omega) (by omega) (by omega), hd', List.all_cons]
    simp only [Option.bind_some, c_okI]
    cases c_in (l[i]'(by omega)).f0 0 255 <;> cases c_in (l[i]'(by omega)).f1 0 255 <;> simp
theorem c_CodeOk_spec (l : List S62) (hl : l.length ≤ 1048576) (k : Nat) (hk : l.length < k) : spec_CodeOk.f k l = some (c_codeOk l) := by
  have := c_codeOk_spec l hl l.length k 0 (by omega) (by omega) hk
  simpa [spec_CodeOk.f, c_codeOk] using this
theorem c_CodeOk_impl (l : List S62) (hl : l.length ≤ 1048576) (k : Nat) (hk : l.length < k) : impl_CodeOk.f k l = some (c_codeOk l) := by
  have := c_codeOk_impl l hl l.length k 0 (by omega) (by omega) hk
  simpa [impl_CodeOk.f, c_codeOk] using this

/-! ### listing -/
def c_line (x : S62) : ByteArray := ((c_name x.f0 ++ (⟨#[32]⟩ : ByteArray)) ++ (⟨(Lib.itoa x.f1).toArray⟩ : ByteArray)) ++ (⟨#[10]⟩ : ByteArray)
def c_lst : ByteArray → List S62 → ByteArray × Bool
  | acc, [] => (acc, true)
  | acc, x :: r => if c_in x.f0 0 17 = true then c_lst (acc ++ c_line x) r else ((⟨#[]⟩ : ByteArray), false)
def c_listing (l : List S62) : ByteArray × Bool := if c_codeOk l = true then c_lst (⟨#[]⟩ : ByteArray) l else ((⟨#[]⟩ : ByteArray), false)
theorem c_name_sizes : ∀ i : Fin 18, (rdOf ByteArray.empty c_namesL (i.val : Int)).size ≤ 16 := by decide +kernel
theorem c_name_size (a : Int) : (c_name a).size ≤ 16 := by
  unfold c_name
  by_cases h : c_in a 0 17 = true
  · rw [if_pos h]
    have h' := c_in_iff.1 h
    have := c_name_sizes ⟨a.toNat, by omega⟩
    rw [show ((a.toNat : Nat) : Int) = a by omega] at this
    exact this
  · rw [if_neg h]
    exact Nat.zero_le _
theorem c_dec_size (a : Int) (h0 : 0 ≤ a) (h1 : a ≤ 255) : (⟨(Lib.itoa a).toArray⟩ : ByteArray).size ≤ 21 := by
  rw [c_decSize]
  exact Lib.itoa_length_le a (by omega) (by omega)
theorem c_line_size (x : S62) (h0 : 0 ≤ x.f1) (h1 : x.f1 ≤ 255) : (c_line x).size ≤ 39 := by
  have a := c_name_size x.f0
  have b := c_dec_size x.f1 h0 h1
  unfold c_line
  rw [ByteArray.size_append, ByteArray.size_append, ByteArray.size_append]
  show (c_name x.f0).size + 1 + _ + 1 ≤ 39
  omega
theorem c_hasOp (a : Int) : impl_hasOp.f a = some (c_in a 0 17) := by
  unfold impl_hasOp.f
  rw [c_within]
  rfl
theorem c_name_nil (a : Int) : ((c_name a).toList = ([] : List UInt8)) ↔ ¬ c_in a 0 17 = true := by
  by_cases h : c_in a 0 17 = true
  · have h' := c_in_iff.1 h
    constructor
    · intro e
      have hv := c_name_val (a := a.toNat) (by omega)
      rw [show ((a.toNat : Nat) : Int) = a by omega, e] at hv
      exact absurd hv.symm (c_nm_ne ⟨a.toNat, by omega⟩)
    · intro e
      exact absurd h e
  · constructor
    · intro _
      exact h
    · intro _
      unfold c_name
      rw [if_neg h, c_toList]
theorem c_list_impl (l : List S62) (hl : l.length ≤ 60) (hok : ∀ x ∈ l, 0 ≤ x.f1 ∧ x.f1 ≤ 255) (d : Nat) : ∀ (k i : Nat) (acc : ByteArray), l.length - i = d → i ≤ l.length → d + 21 < k → acc.size ≤ 39 * i → impl_Listing.l0 k acc l (l.length : Int) i = some (c_lst acc (l.drop i)) := by
  induction d with
  | zero =>
    intro k i acc hd hi hk ha
    obtain ⟨k, rfl⟩ := c_up (k := k) (by omega)
    rw [impl_Listing.l0, if_neg (by omega), List.drop_eq_nil_of_le (by omega)]
    rfl
  | succ d ih =>
    intro k i acc hd hi hk ha
    obtain ⟨k, rfl⟩ := c_up (k := k) (by omega)
    have hx := hok _ (List.getElem_mem (show i < l.length by omega))
    have hd' : l.drop i = l[i]'(by omega) :: l.drop (i + 1) := List.drop_eq_getElem_cons (by omega)
    rw [impl_Listing.l0, if_pos (by omega), if_pos (by omega), if_pos (by omega), c_rdI (by omega), c_hasOp, hd', c_lst]
    generalize l[i]'(by omega) = x at hx
    have hn := c_name_size x.f0
    have hb := c_dec_size x.f1 hx.1 hx.2
    have hls := c_line_size x hx.1 hx.2
    simp only [Option.bind_some]
    by_cases hc : c_in x.f0 0 17 = true
    · rw [if_pos hc, if_pos hc, c_nameOf]
      simp only [Option.bind_some]
      unfold impl_Decimal.f
      rw [if_pos (by omega), if_pos ⟨by omega, by omega⟩]
      simp only [Option.bind_some]
      have e1 : (c_name x.f0 ++ (⟨#[32]⟩ : ByteArray)).size = (c_name x.f0).size + 1 := by rw [ByteArray.size_append]; rfl
      have e2 : ((c_name x.f0 ++ (⟨#[32]⟩ : ByteArray)) ++ (⟨(Lib.itoa x.f1).toArray⟩ : ByteArray)).size = (c_name x.f0).size + 1 + (⟨(Lib.itoa x.f1).toArray⟩ : ByteArray).size := by rw [ByteArray.size_append, e1]
      rw [if_pos (by rw [e1]; omega), if_pos (by rw [e2]; omega), show ((c_name x.f0 ++ (⟨#[32]⟩ : ByteArray)) ++ (⟨(Lib.itoa x.f1).toArray⟩ : ByteArray)) ++ (⟨#[10]⟩ : ByteArray) = c_line x from rfl, if_pos (by omega), c_inc' (n := 60) (by omega) (by omega)]
      exact ih k (i + 1) (acc ++ c_line x) (by omega) (by omega) (by omega) (by rw [ByteArray.size_append]; omega)
    · rw [if_neg hc, if_neg hc]
theorem c_list_spec (l : List S62) (hl : l.length ≤ 60) (hok : ∀ x ∈ l, 0 ≤ x.f1 ∧ x.f1 ≤ 255) (d : Nat) : ∀ (k i : Nat) (acc : ByteArray), l.length - i = d → i ≤ l.length → d + 21 < k → acc.size ≤ 39 * i → spec_Listing.l0 k l acc i = some (c_lst acc (l.drop i)) := by
  induction d with
  | zero =>
    intro k i acc hd hi hk ha
    obtain ⟨k, rfl⟩ := c_up (k := k) (by omega)
    rw [spec_Listing.l0, if_neg (by omega), List.drop_eq_nil_of_le (by omega)]
    rfl
  | succ d ih =>
    intro k i acc hd hi hk ha
    obtain ⟨k, rfl⟩ := c_up (k := k) (by omega)
    have hx := hok _ (List.getElem_mem (show i < l.length by omega))
    have hd' : l.drop i = l[i]'(by omega) :: l.drop (i + 1) := List.drop_eq_getElem_cons (by omega)
    rw [spec_Listing.l0, if_pos (by omega), if_pos (by omega), c_rdI (by omega), hd', c_lst]
    generalize l[i]'(by omega) = x at hx
    have hn := c_name_size x.f0
    have hb := c_dec_size x.f1 hx.1 hx.2
    have hls := c_line_size x hx.1 hx.2
    rw [c_nameOf_same, c_nameOf]
    simp only [Option.bind_some]
    by_cases hc : c_in x.f0 0 17 = true
    · rw [if_neg (fun e => (c_name_nil x.f0).1 e hc), if_pos hc, c_decimal x.f1 (by omega) (by omega) k (by omega)]
      simp only [Option.bind_some]
      have e1 : (acc ++ c_name x.f0).size = acc.size + (c_name x.f0).size := ByteArray.size_append
      have e2 : ((acc ++ c_name x.f0) ++ (⟨#[32]⟩ : ByteArray)).size = acc.size + (c_name x.f0).size + 1 := by rw [ByteArray.size_append, e1]; rfl
      have e3 : (((acc ++ c_name x.f0) ++ (⟨#[32]⟩ : ByteArray)) ++ (⟨(Lib.itoa x.f1).toArray⟩ : ByteArray)).size = acc.size + (c_name x.f0).size + 1 + (⟨(Lib.itoa x.f1).toArray⟩ : ByteArray).size := by rw [ByteArray.size_append, e2]
      have e4 : (((acc ++ c_name x.f0) ++ (⟨#[32]⟩ : ByteArray)) ++ (⟨(Lib.itoa x.f1).toArray⟩ : ByteArray)) ++ (⟨#[10]⟩ : ByteArray) = acc ++ c_line x := by
        unfold c_line
        rw [ByteArray.append_assoc, ByteArray.append_assoc, ByteArray.append_assoc, ByteArray.append_assoc, ByteArray.append_assoc]
      rw [if_pos (by omega), if_pos (by rw [e1]; omega), if_pos (by rw [e2]; omega), if_pos (by rw [e3]; omega), e4, c_inc' (n := 60) (by omega) (by omega)]
      exact ih k (i + 1) (acc ++ c_line x) (by omega) (by omega) (by omega) (by rw [ByteArray.size_append]; omega)
    · rw [if_pos ((c_name_nil x.f0).2 hc), if_neg hc]
theorem c_code_args {l : List S62} (h : c_codeOk l = true) : l.length ≤ 60 ∧ ∀ x ∈ l, 0 ≤ x.f1 ∧ x.f1 ≤ 255 := by
  unfold c_codeOk at h
  rw [Bool.and_eq_true, decide_eq_true_iff, List.all_eq_true] at h
  refine ⟨h.2, fun x hx => ?_⟩
  have := h.1 x hx
  unfold c_okI at this
  rw [Bool.and_eq_true] at this
  exact c_in_iff.1 this.2
theorem c_Listing_impl (l : List S62) (hl : l.length ≤ 1048576) (k : Nat) (hk : l.length + 100 < k) : impl_Listing.f k l = some (c_listing l) := by
  unfold impl_Listing.f c_listing
  rw [c_CodeOk_impl l hl k (by omega)]
  simp only [Option.bind_some]
  by_cases h : c_codeOk l = true
  · obtain ⟨a, b⟩ := c_code_args h
    rw [if_pos h, if_pos h]
    exact c_list_impl l a b l.length k 0 _ rfl (by omega) (by omega) (by simp [ByteArray.size])
  · rw [if_neg h, if_neg h]
theorem c_Listing_spec (l : List S62) (hl : l.length ≤ 1048576) (k : Nat) (hk : l.length + 100 < k) : spec_Listing.f k l = some (c_listing l) := by
  unfold spec_Listing.f c_listing
  rw [c_CodeOk_spec l hl k (by omega)]
  simp only [Option.bind_some]
  by_cases h : c_codeOk l = true
  · obtain ⟨a, b⟩ := c_code_args h
    rw [if_pos h, if_pos h]
    exact c_list_spec l a b l.length k 0 _ rfl (by omega) (by omega) (by simp [ByteArray.size])
  · rw [if_neg h, if_neg h]

/-! ### asmback -/
def c_lineB (x : S62) : List UInt8 := (c_name x.f0).data.toList ++ 32 :: Lib.itoa x.f1
def c_textB : List S62 → List UInt8
  | [] => []
  | x :: r => c_lineB x ++ 10 :: c_textB r
theorem c_line_data (x : S62) : (c_line x).data.toList = c_lineB x ++ [10] := by
  unfold c_line c_lineB
  simp
theorem c_lst_text : ∀ (l : List S62) (acc : ByteArray), (c_lst acc l).2 = true → (∀ x ∈ l, c_in x.f0 0 17 = true) ∧ (c_lst acc l).1.data.toList = acc.data.toList ++ c_textB l
  | [], acc, _ => ⟨fun x hx => by simp at hx, by rw [c_lst, c_textB, List.append_nil]⟩
  | x :: r, acc, h => by
    rw [c_lst] at h ⊢
    by_cases hx : c_in x.f0 0 17 = true
    · rw [if_pos hx] at h ⊢
      obtain ⟨a, b⟩ := c_lst_text r _ h
      refine ⟨fun y hy => ?_, ?_⟩
      · rcases List.mem_cons.1 hy with rfl | hy
        · exact hx
        · exact a y hy
      · rw [b, c_textB]
        have : (acc ++ c_line x).data.toList = acc.data.toList ++ (c_line x).data.toList := by simp
        rw [this, c_line_data]
        simp
    · rw [if_neg hx] at h
      cases h
theorem c_lst_no : ∀ (l : List S62) (acc : ByteArray), (c_lst acc l).2 = false → (c_lst acc l).1 = (⟨#[]⟩ : ByteArray)
  | [], acc, h => by cases h
  | x :: r, acc, h => by
    rw [c_lst] at h ⊢
    by_cases hx : c_in x.f0 0 17 = true
    · rw [if_pos hx] at h ⊢
      exact c_lst_no r _ h
    · rw [if_neg hx]
theorem c_nm_bytes : ∀ i : Fin 18, (c_nm.getD i.val []).all (fun c => decide (97 ≤ c.toNat ∧ c.toNat ≤ 122)) = true := by decide +kernel
theorem c_name_bytes {a : Int} (h : c_in a 0 17 = true) : (c_name a).data.toList = c_nm.getD a.toNat [] ∧ (∀ c ∈ (c_name a).data.toList, 97 ≤ c.toNat ∧ c.toNat ≤ 122) ∧ (c_name a).data.toList ≠ [] := by
  have h' := c_in_iff.1 h
  have hv := c_name_val (a := a.toNat) (by omega)
  rw [show ((a.toNat : Nat) : Int) = a by omega, c_toList] at hv
  refine ⟨hv, ?_, ?_⟩
  · rw [hv]
    intro c hc
    exact of_decide_eq_true (List.all_eq_true.1 (c_nm_bytes ⟨a.toNat, by omega⟩) c hc)
  · rw [hv]
    exact c_nm_ne ⟨a.toNat, by omega⟩
theorem c_lineL_app : ∀ (a cur rest : List UInt8), (∀ c ∈ a, c ≠ 10) → c_lineL cur (a ++ 10 :: rest) = (cur ++ a) :: c_lineL [] rest
  | [], cur, rest, _ => by rw [List.nil_append, c_lineL, if_pos rfl, List.append_nil]
  | c :: t, cur, rest, h => by
    rw [List.cons_append, c_lineL, if_neg (h c List.mem_cons_self), c_lineL_app t _ _ (fun x hx => h x (List.mem_cons_of_mem _ hx)), List.append_assoc]
    rfl
theorem c_words_app : ∀ (a cur rest : List UInt8), (∀ c ∈ a, c ≠ 32) → cur ++ a ≠ [] → c_words cur (a ++ 32 :: rest) = (cur ++ a) :: c_words [] rest
  | [], cur, rest, _, hne => by
    rw [List.append_nil] at hne
    rw [List.nil_append, c_words, if_pos rfl, if_neg hne, List.append_nil]
  | c :: t, cur, rest, h, hne => by
    rw [List.cons_append, c_words, if_neg (h c List.mem_cons_self), c_words_app t _ _ (fun x hx => h x (List.mem_cons_of_mem _ hx)) (by simp), List.append_assoc]
    rfl
theorem c_words_last : ∀ (a cur : List UInt8), (∀ c ∈ a, c ≠ 32) → cur ++ a ≠ [] → c_words cur a = [cur ++ a]
  | [], cur, _, hne => by
    rw [List.append_nil] at hne
    rw [c_words, if_neg hne, List.append_nil]
  | c :: t, cur, h, hne => by
    rw [c_words, if_neg (h c List.mem_cons_self), c_words_last t _ (fun x hx => h x (List.mem_cons_of_mem _ hx)) (by simp), List.append_assoc]
    rfl
theorem c_lineB_bytes (x : S62) (hx : c_in x.f0 0 17 = true) (h0 : 0 ≤ x.f1) : ∀ c ∈ c_lineB x, 32 ≤ c.toNat ∧ c.toNat ≤ 122 := by
  obtain ⟨_, b, _⟩ := c_name_bytes hx
  obtain ⟨d, _, _, _⟩ := c_itoa x.f1 h0
  intro c hc
  unfold c_lineB at hc
  rcases List.mem_append.1 hc with hc | hc
  · have := b c hc; omega
  · rcases List.mem_cons.1 hc with rfl | hc
    · decide
    · have := d c hc; omega
theorem c_ne_of {c u : UInt8} (h : c.toNat ≠ u.toNat) : c ≠ u := fun e => h (by rw [e])
theorem c_line_parts (x : S62) (hx : c_in x.f0 0 17 = true) (h0 : 0 ≤ x.f1) (h1 : x.f1 ≤ 255) : c_parts (c_mk (c_lineB x)) = ([c_name x.f0, (⟨(Lib.itoa x.f1).toArray⟩ : ByteArray)], true) := by
  obtain ⟨_, b, ne⟩ := c_name_bytes hx
  obtain ⟨d, _, dne, _⟩ := c_itoa x.f1 h0
  have hz := c_line_size x h0 h1
  have hd := congrArg List.length (c_line_data x)
  rw [data_length, List.length_append, List.length_singleton] at hd
  have hsz : (c_mk (c_lineB x)).size = (c_lineB x).length := by rw [← data_length, c_mk_data]
  have hw : c_words [] (c_lineB x) = [(c_name x.f0).data.toList, Lib.itoa x.f1] := by
    unfold c_lineB
    rw [c_words_app _ _ _ (fun c hc => c_ne_of (by have := b c hc; show c.toNat ≠ 32; omega)) (by simpa using ne), c_words_last _ _ (fun c hc => c_ne_of (by have := d c hc; show c.toNat ≠ 32; omega)) (by simpa using dne)]
    rfl
  have hf : c_fine (c_lineB x) = true := by
    unfold c_fine
    rw [List.all_eq_true]
    intro c hc
    have := c_lineB_bytes x hx h0 c hc
    exact decide_eq_true (by omega)
  unfold c_parts
  rw [if_neg (by rw [hsz]; omega), c_mk_data, hf, c_out_true, hw, List.map_cons, List.map_cons, List.map_nil, c_mk_of]
  rfl
theorem c_line_ins (x : S62) (hx : c_in x.f0 0 17 = true) (h0 : 0 ≤ x.f1) (h1 : x.f1 ≤ 255) : c_ins [c_name x.f0, (⟨(Lib.itoa x.f1).toArray⟩ : ByteArray)] = some x := by
  obtain ⟨a, _, _⟩ := c_name_bytes hx
  have h' := c_in_iff.1 hx
  have hop : c_opOf (c_name x.f0) = some x.f0.toNat := by
    unfold c_opOf
    rw [a]
    exact c_opOf_self ⟨x.f0.toNat, by omega⟩
  rw [c_ins, hop, c_read_yes _ x.f1 h0 (by omega) (by simp)]
  unfold c_insX
  rw [if_pos ⟨rfl, h1⟩, Option.map_some, show ((x.f0.toNat : Nat) : Int) = x.f0 by omega]
theorem c_lines_text : ∀ (l : List S62), (∀ x ∈ l, c_in x.f0 0 17 = true ∧ 0 ≤ x.f1 ∧ x.f1 ≤ 255) → c_lineL [] (c_textB l) = l.map c_lineB
  | [], _ => by rw [c_textB, c_lineL]; rfl
  | x :: r, h => by
    obtain ⟨a, b, c⟩ := h x List.mem_cons_self
    rw [c_textB, c_lineL_app _ _ _ (fun c hc => c_ne_of (by have := c_lineB_bytes x a b c hc; show c.toNat ≠ 10; omega)), c_lines_text r (fun y hy => h y (List.mem_cons_of_mem _ hy))]
    rfl
theorem c_asm_text : ∀ (l : List S62) (i : Nat) (out : List S62), (∀ x ∈ l, c_in x.f0 0 17 = true ∧ 0 ≤ x.f1 ∧ x.f1 ≤ 255) → out.length + l.length ≤ 60 → c_asm ((l.map c_lineB).map c_mk) i out = (out ++ l, 0)
  | [], i, out, _, _ => by rw [List.append_nil]; rfl
  | x :: r, i, out, h, hl => by
    obtain ⟨a, b, c⟩ := h x List.mem_cons_self
    rw [List.length_cons] at hl
    rw [List.map_cons, List.map_cons, c_asm, c_line_parts x a b c]
    unfold c_asmS
    rw [if_pos rfl, if_neg (List.cons_ne_nil _ _), c_line_ins x a b c]
    dsimp only
    rw [if_neg (by omega), c_asm_text r (i + 1) (out ++ [x]) (fun y hy => h y (List.mem_cons_of_mem _ hy)) (by rw [List.length_append, List.length_singleton]; omega), List.append_assoc]
    rfl
/-- What is listed is assembled as it was. -/
theorem c_asm_back (l : List S62) (h : (c_listing l).2 = true) : c_assemble (c_listing l).1 = (l, 0) := by
  unfold c_listing at h ⊢
  by_cases hc : c_codeOk l = true
  · rw [if_pos hc] at h ⊢
    obtain ⟨hl, ha⟩ := c_code_args hc
    obtain ⟨hn, ht⟩ := c_lst_text l _ h
    have hall : ∀ x ∈ l, c_in x.f0 0 17 = true ∧ 0 ≤ x.f1 ∧ x.f1 ≤ 255 := fun x hx => ⟨hn x hx, ha x hx⟩
    have ht' : (c_lst (⟨#[]⟩ : ByteArray) l).1.data.toList = c_textB l := by simpa using ht
    unfold c_assemble c_lines
    rw [ht', c_lines_text l hall, c_asm_text l 0 [] hall (by simpa using hl)]
    rfl
  · rw [if_neg hc] at h
    cases h
theorem c_listing_no (l : List S62) (h : (c_listing l).2 = false) : (c_listing l).1 = (⟨#[]⟩ : ByteArray) := by
  unfold c_listing at h ⊢
  by_cases hc : c_codeOk l = true
  · rw [if_pos hc] at h ⊢
    exact c_lst_no l _ h
  · rw [if_neg hc]

/-! ### draw -/
structure CSt (l : List Int) (i : Int) : Prop where
  lo : 0 ≤ i
  hi : i ≤ l.length
  sz : l.length ≤ 4611686018427387904
theorem c_and_le (x : Int) : 0 ≤ Go.bits .and .i64 x 255 ∧ Go.bits .and .i64 x 255 ≤ 255 := by
  have h : (BitVec.ofInt 64 x &&& BitVec.ofInt 64 255).toNat ≤ 255 := by
    rw [BitVec.toNat_and]
    exact Nat.le_trans Nat.and_le_right (by decide)
  have e : Go.bits .and .i64 x 255 = IntKind.i64.wrap ((BitVec.ofInt 64 x &&& BitVec.ofInt 64 255).toNat : Int) := rfl
  rw [e, IntKind.wrap_i64]
  omega
theorem c_new (l : List Int) (hl : l.length ≤ 4611686018427387904) (d : Nat) : ∀ (h : Int) (i : Nat), 4000 - i = d → i ≤ l.length → ∃ h', ∀ k, d < k → spec_l01New.l0 k l h i = some (l, 0, h') := by
  induction d with
  | zero =>
    intro h i hd hi
    refine ⟨h, fun k hk => ?_⟩
    obtain ⟨k, rfl⟩ := c_up (k := k) (by omega)
    rw [spec_l01New.l0]
    by_cases h1 : (i : Int) < (l.length : Int)
    · rw [if_pos h1, if_neg (by omega)]
    · rw [if_neg h1]
  | succ d ih =>
    intro h i hd hi
    by_cases h1 : i < l.length
    · obtain ⟨h', hh⟩ := ih (Go.bits .and .i64 (wrap64 ((wrap64 ((wrap64 (h * 131)) + (wrap64 (rd l i)))) + 7)) 1073741823) (i + 1) (by omega) (by omega)
      refine ⟨h', fun k hk => ?_⟩
      obtain ⟨k, rfl⟩ := c_up (k := k) (by omega)
      rw [spec_l01New.l0, if_pos (by omega), if_pos (by omega), if_pos (by omega), c_inc (n := l.length) (by omega) (by omega)]
      exact hh k (by omega)
    · refine ⟨h, fun k hk => ?_⟩
      obtain ⟨k, rfl⟩ := c_up (k := k) (by omega)
      rw [spec_l01New.l0, if_neg (by omega)]
theorem c_l01New (l : List Int) (hl : l.length ≤ 4611686018427387904) : ∃ h, ∀ k, 4000 < k → spec_l01New.f k l = some (l, 0, h) := by
  obtain ⟨h, hh⟩ := c_new l hl 4000 (wrap64 (37101 + (l.length : Int))) 0 rfl (by omega)
  exact ⟨h, fun k hk => by unfold spec_l01New.f; exact hh k hk⟩
theorem c_byte {l : List Int} {i : Int} (h : Int) (s : CSt l i) : ∃ x i' h', spec_l01Byte.f l i h = some (x, i', h') ∧ 0 ≤ x ∧ x ≤ 255 ∧ CSt l i' := by
  unfold spec_l01Byte.f
  have hlo := s.lo
  have hhi := s.hi
  have hsz := s.sz
  by_cases h1 : i < (l.length : Int)
  · rw [if_pos h1, if_pos hlo]
    refine ⟨_, _, _, rfl, (c_and_le _).1, (c_and_le _).2, ?_⟩
    rw [c_wrap (n := i + 1) (by omega) (by omega)]
    exact ⟨by omega, by omega, hsz⟩
  · rw [if_neg h1]
    exact ⟨_, _, _, rfl, (c_and_le _).1, (c_and_le _).2, s⟩
theorem c_below {l : List Int} {i : Int} (h : Int) (s : CSt l i) (n : Int) : ∃ x i' h', spec_l01Below.f l i h n = some (x, i', h') ∧ 0 ≤ x ∧ (0 < n → x < n) ∧ (n ≤ 0 → x = 0) ∧ CSt l i' := by
  unfold spec_l01Below.f
  by_cases h0 : n ≤ 0
  · rw [if_pos h0]
    exact ⟨_, _, _, rfl, by omega, by omega, fun _ => rfl, s⟩
  · rw [if_neg h0]
    by_cases h1 : n ≤ 256
    · obtain ⟨x, i', h', e, hx0, hx1, s'⟩ := c_byte h s
      rw [if_pos h1, e]
      simp only [Option.bind_some]
      rw [if_neg (by omega), Int.tmod_eq_emod_of_nonneg hx0]
      exact ⟨_, _, _, rfl, Int.emod_nonneg _ (by omega), fun _ => Int.emod_lt_of_pos _ (by omega), by omega, s'⟩
    · obtain ⟨x, i1, h1', e1, hx0, hx1, s1⟩ := c_byte h s
      obtain ⟨y, i2, h2', e2, hy0, hy1, s2⟩ := c_byte h1' s1
      obtain ⟨z, i3, h3', e3, hz0, hz1, s3⟩ := c_byte h2' s2
      obtain ⟨w, i4, h4', e4, hw0, hw1, s4⟩ := c_byte h3' s3
      rw [if_neg h1, e1]
      simp only [Option.bind_some]
      rw [e2]
      simp only [Option.bind_some]
      rw [e3]
      simp only [Option.bind_some]
      rw [e4]
      simp only [Option.bind_some]
      rw [if_neg (by omega), c_wrap (n := x * 16777216) (by omega) (by omega), c_wrap (n := y * 65536) (by omega) (by omega), c_wrap (n := z * 256) (by omega) (by omega), c_wrap (n := x * 16777216 + y * 65536) (by omega) (by omega), c_wrap (n := x * 16777216 + y * 65536 + z * 256) (by omega) (by omega), c_wrap (by omega) (by omega), Int.tmod_eq_emod_of_nonneg (by omega)]
      exact ⟨_, _, _, rfl, Int.emod_nonneg _ (by omega), fun _ => Int.emod_lt_of_pos _ (by omega), by omega, s4⟩
theorem c_pick {l : List Int} {i : Int} (h : Int) (s : CSt l i) (xs : List Int) (hx : 0 < xs.length) : ∃ x i' h', spec_l01PickInt.f l i h xs = some (x, i', h') ∧ x ∈ xs ∧ CSt l i' := by
  unfold spec_l01PickInt.f
  obtain ⟨x, i', h', e, hx0, hx1, _, s'⟩ := c_below h s (xs.length : Int)
  rw [e]
  simp only [Option.bind_some]
  rw [if_pos hx0, if_pos (hx1 (by omega))]
  refine ⟨_, _, _, rfl, ?_, s'⟩
  obtain ⟨j, rfl⟩ := Int.eq_ofNat_of_zero_le hx0
  have := hx1 (by omega)
  rw [c_rd (by omega)]
  exact List.getElem_mem _

/-! ### once -/
theorem c_once {l : List Int} {i : Int} (h : Int) (s : CSt l i) (n : Int) : ∃ b i' h', spec_l01Once.f l i h n = some (b, i', h') ∧ CSt l i' := by
  obtain ⟨x, i1, h1, e1, _, _, _, s1⟩ := c_below h s n
  unfold spec_l01Once.f
  rw [e1]
  exact ⟨_, _, _, rfl, s1⟩

/-! ### codetext -/
def c_text (l : List S62) : List Int := l.flatMap fun x => [x.f0 % 256, x.f1 % 256]
theorem c_text_cons (x : S62) (l : List S62) : c_text (x :: l) = [x.f0 % 256, x.f1 % 256] ++ c_text l := rfl
def c_codeText (l : List S62) : ByteArray × Bool := if c_codeOk l = true then (strOfNums (c_text l), true) else ((⟨#[]⟩ : ByteArray), false)

/-! ### codedraw -/
theorem c_i2 {l : List Int} {i : Int} (h : Int) (s : CSt l i) (a b : Int) : ∃ a' b' i' h', CSt l i' ∧ ∀ k, 0 < k → spec_l05Instr.j2 k l i h a b = some (a', b', i', h') := by
  obtain ⟨f, i1, h1, e1, s1⟩ := c_once h s 40
  by_cases hf : f = true
  · obtain ⟨x, i2, h2, e2, _, _, _, s2⟩ := c_below h1 s1 256
    refine ⟨x, b, i2, h2, s2, fun k hk => ?_⟩
    obtain ⟨k, rfl⟩ := c_up hk
    rw [spec_l05Instr.j2, e1]
    simp only [Option.bind_some]
    rw [if_pos hf, e2]
    rfl
  · refine ⟨a, b, i1, h1, s1, fun k hk => ?_⟩
    obtain ⟨k, rfl⟩ := c_up hk
    rw [spec_l05Instr.j2, e1]
    simp only [Option.bind_some]
    rw [if_neg hf]
theorem c_i1 (f : Bool) {l : List Int} {i : Int} (h : Int) (s : CSt l i) (a b : Int) : ∃ a' b' i' h', CSt l i' ∧ ∀ k, 1 < k → spec_l05Instr.j1 k f l i h a b = some (a', b', i', h') := by
  by_cases hf : f = true
  · obtain ⟨x, i1, h1, e1, _, _, _, s1⟩ := c_below h s 14
    obtain ⟨a', b', i', h', s', q⟩ := c_i2 h1 s1 a x
    refine ⟨a', b', i', h', s', fun k hk => ?_⟩
    obtain ⟨k, rfl⟩ := c_up (k := k) (by omega)
    rw [spec_l05Instr.j1, if_pos hf, e1]
    simp only [Option.bind_some]
    exact q k (by omega)
  · obtain ⟨a', b', i', h', s', q⟩ := c_i2 h s a b
    refine ⟨a', b', i', h', s', fun k hk => ?_⟩
    obtain ⟨k, rfl⟩ := c_up (k := k) (by omega)
    rw [spec_l05Instr.j1, if_neg hf]
    exact q k (by omega)
theorem c_i0 {l : List Int} {i : Int} (h : Int) (s : CSt l i) (a b : Int) : ∃ a' b' i' h', CSt l i' ∧ ∀ k, 2 < k → spec_l05Instr.j0 k l i h a b = some (a', b', i', h') := by
  by_cases hf : a = 9
  · obtain ⟨a', b', i', h', s', q⟩ := c_i1 true h s a b
    refine ⟨a', b', i', h', s', fun k hk => ?_⟩
    obtain ⟨k, rfl⟩ := c_up (k := k) (by omega)
    rw [spec_l05Instr.j0, if_pos hf]
    exact q k (by omega)
  · obtain ⟨a', b', i', h', s', q⟩ := c_i1 (a == 10) h s a b
    refine ⟨a', b', i', h', s', fun k hk => ?_⟩
    obtain ⟨k, rfl⟩ := c_up (k := k) (by omega)
    rw [spec_l05Instr.j0, if_neg hf]
    exact q k (by omega)
theorem c_l05Instr {l : List Int} {i : Int} (h : Int) (s : CSt l i) : ∃ a b i' h', CSt l i' ∧ ∀ k, 2 < k → spec_l05Instr.f k l i h = some (a, b, i', h') := by
  obtain ⟨x, i1, h1, e1, _, s1⟩ := c_pick h s [0, 1, 1, 1, 1, 1, 2, 3, 3, 4, 5, 6, 7, 8, 9, 10, 11, 12, 13, 14, 15, 16, 17] (by simp)
  obtain ⟨y, i2, h2, e2, _, _, _, s2⟩ := c_below h1 s1 4
  by_cases hx : x = 1
  · obtain ⟨z, i3, h3, e3, _, _, _, s3⟩ := c_below h2 s2 8
    obtain ⟨a', b', i', h', s', q⟩ := c_i0 h3 s3 x z
    refine ⟨a', b', i', h', s', fun k hk => ?_⟩
    unfold spec_l05Instr.f
    rw [e1]
    simp only [Option.bind_some]
    rw [e2]
    simp only [Option.bind_some]
    rw [if_pos hx, e3]
    simp only [Option.bind_some]
    exact q k hk
  · obtain ⟨a', b', i', h', s', q⟩ := c_i0 h2 s2 x y
    refine ⟨a', b', i', h', s', fun k hk => ?_⟩
    unfold spec_l05Instr.f
    rw [e1]
    simp only [Option.bind_some]
    rw [e2]
    simp only [Option.bind_some]
    rw [if_neg hx]
    exact q k hk
theorem c_l05Code_end {l : List Int} {i : Int} (h : Int) (s : CSt l i) (acc : List S62) (ha : acc.length ≤ 45) : ∃ (r : List S62) (i' h' : Int), r.length ≤ 46 ∧ CSt l i' ∧ (spec_l01Once.f l i h 2).bind (fun bt156 => (if bt156.1 = true then (if acc.length < 8796093022208 then (some ((acc ++ [(⟨0, 0⟩ : S62)]), bt156.2.1, bt156.2.2)) else (none)) else (some (acc, bt156.2.1, bt156.2.2)))) = some (r, i', h') := by
  obtain ⟨f, i1, h1, e1, s1⟩ := c_once h s 2
  rw [e1]
  simp only [Option.bind_some]
  by_cases hf : f = true
  · rw [if_pos hf, if_pos (by omega)]
    exact ⟨_, _, _, by rw [List.length_append, List.length_singleton]; omega, s1, rfl⟩
  · rw [if_neg hf]
    exact ⟨_, _, _, by omega, s1, rfl⟩
theorem c_l05Code_l {l : List Int} (d : Nat) : ∀ (acc : List S62) (j : Nat) (i h : Int), 15 - j = d → j ≤ 15 → acc.length ≤ 3 * j → CSt l i → ∃ (r : List S62) (i' h' : Int), r.length ≤ 46 ∧ CSt l i' ∧ ∀ k, d + 3 < k → spec_l05Code.l0 k acc j l i h = some (r, i', h') := by
  induction d with
  | zero =>
    intro acc j i h hd hj ha s
    obtain ⟨x, i1, h1, e1, _, x1, _, s1⟩ := c_below h s 16
    have x2 := x1 (by omega)
    obtain ⟨r, i', h', q1, q2, q3⟩ := c_l05Code_end h1 s1 acc (by omega)
    refine ⟨r, i', h', q1, q2, fun k hk => ?_⟩
    obtain ⟨k, rfl⟩ := c_up (k := k) (by omega)
    rw [spec_l05Code.l0, e1]
    simp only [Option.bind_some]
    rw [if_neg (by omega)]
    exact q3
  | succ d ih =>
    intro acc j i h hd hj ha s
    obtain ⟨x, i1, h1, e1, _, x1, _, s1⟩ := c_below h s 16
    have hw := Aside0.mk (c_inc' (i := j) (n := 15) (by omega) (by omega))
    by_cases hin : (j : Int) < x
    · obtain ⟨m, i2, h2, e2, _, _, _, s2⟩ := c_below h1 s1 6
      by_cases m0 : m = 0
      · obtain ⟨y, i3, h3, e3, _, _, _, s3⟩ := c_below h2 s2 5
        obtain ⟨z, i4, h4, e4, _, _, _, s4⟩ := c_below h3 s3 9
        obtain ⟨r, i', h', q1, q2, q3⟩ := ih (acc ++ [⟨1, y⟩, ⟨1, z⟩, ⟨3, 0⟩]) (j + 1) i4 h4 (by omega) (by omega) (by simp; omega) s4
        refine ⟨r, i', h', q1, q2, fun k hk => ?_⟩
        obtain ⟨k, rfl⟩ := c_up (k := k) (by omega)
        rw [spec_l05Code.l0, e1]
        simp only [Option.bind_some]
        rw [if_pos hin, e2]
        simp only [Option.bind_some]
        rw [if_pos m0, e3]
        simp only [Option.bind_some]
        rw [e4]
        simp only [Option.bind_some]
        rw [if_pos (by simp; omega), hw.out]
        exact q3 k (by omega)
      · by_cases m1 : m = 1
        · obtain ⟨y, i3, h3, e3, _, _, _, s3⟩ := c_below h2 s2 5
          obtain ⟨z, i4, h4, e4, _, _, _, s4⟩ := c_below h3 s3 2
          obtain ⟨r, i', h', q1, q2, q3⟩ := ih (acc ++ [⟨1, y⟩, ⟨2, 0⟩, ⟨16, z⟩]) (j + 1) i4 h4 (by omega) (by omega) (by simp; omega) s4
          refine ⟨r, i', h', q1, q2, fun k hk => ?_⟩
          obtain ⟨k, rfl⟩ := c_up (k := k) (by omega)
          rw [spec_l05Code.l0, e1]
          simp only [Option.bind_some]
          rw [if_pos hin, e2]
          simp only [Option.bind_some]
          rw [if_neg m0, if_pos m1, e3]
          simp only [Option.bind_some]
          rw [e4]
          simp only [Option.bind_some]
          rw [if_pos (by simp; omega), hw.out]
          exact q3 k (by omega)
        · by_cases m2 : m = 2
          · obtain ⟨y, i3, h3, e3, _, _, _, s3⟩ := c_below h2 s2 3
            obtain ⟨z, i4, h4, e4, _, _, _, s4⟩ := c_below h3 s3 3
            obtain ⟨r, i', h', q1, q2, q3⟩ := ih (acc ++ [⟨15, y⟩, ⟨13, z⟩, ⟨12, 0⟩]) (j + 1) i4 h4 (by omega) (by omega) (by simp; omega) s4
            refine ⟨r, i', h', q1, q2, fun k hk => ?_⟩
            obtain ⟨k, rfl⟩ := c_up (k := k) (by omega)
            rw [spec_l05Code.l0, e1]
            simp only [Option.bind_some]
            rw [if_pos hin, e2]
            simp only [Option.bind_some]
            rw [if_neg m0, if_neg m1, if_pos m2, e3]
            simp only [Option.bind_some]
            rw [e4]
            simp only [Option.bind_some]
            rw [if_pos (by simp; omega), hw.out]
            exact q3 k (by omega)
          · obtain ⟨a, b, i3, h3, s3, e3⟩ := c_l05Instr h2 s2
            obtain ⟨r, i', h', q1, q2, q3⟩ := ih (acc ++ [⟨a, b⟩]) (j + 1) i3 h3 (by omega) (by omega) (by simp; omega) s3
            refine ⟨r, i', h', q1, q2, fun k hk => ?_⟩
            obtain ⟨k, rfl⟩ := c_up (k := k) (by omega)
            rw [spec_l05Code.l0, e1]
            simp only [Option.bind_some]
            rw [if_pos hin, e2]
            simp only [Option.bind_some]
            rw [if_neg m0, if_neg m1, if_neg m2, e3 k (by omega)]
            simp only [Option.bind_some]
            rw [if_pos (by omega), hw.out]
            exact q3 k (by omega)
    · obtain ⟨r, i', h', q1, q2, q3⟩ := c_l05Code_end h1 s1 acc (by omega)
      refine ⟨r, i', h', q1, q2, fun k hk => ?_⟩
      obtain ⟨k, rfl⟩ := c_up (k := k) (by omega)
      rw [spec_l05Code.l0, e1]
      simp only [Option.bind_some]
      rw [if_neg hin]
      exact q3
theorem c_l05Code {l : List Int} {i : Int} (h : Int) (s : CSt l i) : ∃ (r : List S62) (i' h' : Int), r.length ≤ 46 ∧ CSt l i' ∧ ∀ k, 18 < k → spec_l05Code.f k l i h = some (r, i', h') := by
  obtain ⟨r, i', h', q1, q2, q3⟩ := c_l05Code_l (l := l) 15 [] 0 i h rfl (by omega) (by simp) s
  exact ⟨r, i', h', q1, q2, fun k hk => by unfold spec_l05Code.f; exact q3 k (by omega)⟩
theorem c_text1 {l : List Int} {i : Int} (h : Int) (s : CSt l i) : ∃ (t : ByteArray) (i' h' : Int), t.size = 1 ∧ CSt l i' ∧ ∀ k, 3 < k → spec_l01Text.f k l i h 1 = some (t, i', h') := by
  obtain ⟨x, i1, h1, e1, _, _, s1⟩ := c_byte h s
  refine ⟨strOfNums [x % 256], i1, h1, by rw [strOfNums_size]; rfl, s1, fun k hk => ?_⟩
  obtain ⟨k, rfl⟩ : ∃ m, k = m + 3 := ⟨k - 3, by omega⟩
  unfold spec_l01Text.f
  rw [if_neg (by omega), spec_l01Text.j0, spec_l01Text.l0, if_pos (by omega), e1]
  simp only [Option.bind_some]
  rw [if_pos (by simp), c_wrap (n := 0 + 1) (by omega) (by omega), spec_l01Text.l0, if_neg (by omega)]
  rfl
theorem c_spoilt0 (f : Bool) {l : List Int} {i : Int} (h : Int) (s : CSt l i) (t : ByteArray) (ht : t.size ≤ 1000) : ∃ (u : ByteArray) (i' h' : Int), ∀ k, 4 < k → spec_l02Spoilt.j0 k t f l i h = some (u, i', h') := by
  by_cases hf : f = true
  · by_cases h0 : (t.size : Int) > 0
    · obtain ⟨y, i1, h1, e1, y0, y1, _, s1⟩ := c_below h s (t.size : Int)
      have y2 := y1 (by omega)
      obtain ⟨u, i2, h2, hu, s2, e2⟩ := c_text1 h1 s1
      refine ⟨(t.extract 0 y.toNat ++ u) ++ t.extract (y + 1).toNat t.size, i2, h2, fun k hk => ?_⟩
      obtain ⟨k, rfl⟩ := c_up (k := k) (by omega)
      have z1 : (t.extract 0 y.toNat).size ≤ 1000 := by rw [ByteArray.size_extract]; omega
      have z2 : (t.extract (y + 1).toNat t.size).size ≤ 1000 := by rw [ByteArray.size_extract]; omega
      rw [spec_l02Spoilt.j0, if_pos hf, if_pos h0, e1]
      simp only [Option.bind_some]
      rw [if_pos y0, if_pos (by omega), e2 k (by omega)]
      simp only [Option.bind_some]
      rw [c_wrap (n := y + 1) (by omega) (by omega), if_pos (by omega), if_pos (by omega), if_pos (by omega), if_pos (by rw [ByteArray.size_append]; omega)]
    · refine ⟨t, i, h, fun k hk => ?_⟩
      obtain ⟨k, rfl⟩ := c_up (k := k) (by omega)
      rw [spec_l02Spoilt.j0, if_pos hf, if_neg h0]
  · refine ⟨t, i, h, fun k hk => ?_⟩
    obtain ⟨k, rfl⟩ := c_up (k := k) (by omega)
    rw [spec_l02Spoilt.j0, if_neg hf]
theorem c_spoilt {l : List Int} {i : Int} (h : Int) (s : CSt l i) (t : ByteArray) (ht : t.size ≤ 1000) : ∃ (u : ByteArray) (i' h' : Int), ∀ k, 4 < k → spec_l02Spoilt.f k l i h t = some (u, i', h') := by
  obtain ⟨m, i1, h1, e1, _, _, _, s1⟩ := c_below h s 12
  by_cases c0 : m = 0
  · obtain ⟨u, i2, h2, hu, s2, e2⟩ := c_text1 h1 s1
    refine ⟨t ++ u, i2, h2, fun k hk => ?_⟩
    unfold spec_l02Spoilt.f
    rw [e1]
    simp only [Option.bind_some]
    rw [if_pos c0, e2 k (by omega)]
    simp only [Option.bind_some]
    rw [if_pos (by omega)]
  · by_cases c1 : m = 1
    · obtain ⟨y, i2, h2, e2, y0, y1, _, s2⟩ := c_below h1 s1 ((t.size : Int) + 1)
      have y2 := y1 (by omega)
      refine ⟨t.extract 0 y.toNat, i2, h2, fun k hk => ?_⟩
      unfold spec_l02Spoilt.f
      rw [e1]
      simp only [Option.bind_some]
      rw [if_neg c0, if_pos c1, c_wrap (n := (t.size : Int) + 1) (by omega) (by omega), e2]
      simp only [Option.bind_some]
      rw [if_pos (by omega), if_pos (by omega)]
    · by_cases c2 : m = 2
      · obtain ⟨u, i', h', q⟩ := c_spoilt0 (m == 2) h1 s1 t ht
        refine ⟨u, i', h', fun k hk => ?_⟩
        unfold spec_l02Spoilt.f
        rw [e1]
        simp only [Option.bind_some]
        rw [if_neg c0, if_neg c1, if_pos c2]
        exact q k hk
      · obtain ⟨u, i', h', q⟩ := c_spoilt0 (m == 3) h1 s1 t ht
        refine ⟨u, i', h', fun k hk => ?_⟩
        unfold spec_l02Spoilt.f
        rw [e1]
        simp only [Option.bind_some]
        rw [if_neg c0, if_neg c1, if_neg c2]
        exact q k hk
theorem c_text_len (l : List S62) : (c_text l).length = 2 * l.length := by
  induction l with
  | nil => rfl
  | cons x l ih =>
    rw [c_text_cons, List.length_append, List.length_cons, ih]
    simp only [List.length_cons, List.length_nil]
    omega
theorem c_codeText_size (l : List S62) : (c_codeText l).1.size ≤ 2 * l.length := by
  unfold c_codeText
  split
  · show (strOfNums (c_text l)).size ≤ _
    rw [strOfNums_size, c_text_len]
    omega
  · exact Nat.zero_le _

/-! ### listdraw -/
theorem c_sploilt0 (f : Bool) {l : List Int} {i : Int} (h : Int) (s : CSt l i) (t : ByteArray) (ht : t.size ≤ 5000) : ∃ (u : ByteArray) (i' h' : Int), u.size ≤ 5001 ∧ ∀ k, 4 < k → spec_l02Spoilt.j0 k t f l i h = some (u, i', h') := by
  by_cases hf : f = true
  · by_cases h0 : (t.size : Int) > 0
    · obtain ⟨y, i1, h1, e1, y0, y1, _, s1⟩ := c_below h s (t.size : Int)
      have y2 := y1 (by omega)
      obtain ⟨u, i2, h2, hu, s2, e2⟩ := c_text1 h1 s1
      have z1 : (t.extract 0 y.toNat).size ≤ y.toNat := by rw [ByteArray.size_extract]; omega
      have z2 : (t.extract (y + 1).toNat t.size).size ≤ t.size - (y + 1).toNat := by rw [ByteArray.size_extract]; omega
      refine ⟨(t.extract 0 y.toNat ++ u) ++ t.extract (y + 1).toNat t.size, i2, h2, by rw [ByteArray.size_append, ByteArray.size_append]; omega, fun k hk => ?_⟩
      obtain ⟨k, rfl⟩ := c_up (k := k) (by omega)
      rw [spec_l02Spoilt.j0, if_pos hf, if_pos h0, e1]
      simp only [Option.bind_some]
      rw [if_pos y0, if_pos (by omega), e2 k (by omega)]
      simp only [Option.bind_some]
      rw [c_wrap (n := y + 1) (by omega) (by omega), if_pos (by omega), if_pos (by omega), if_pos (by omega), if_pos (by rw [ByteArray.size_append]; omega)]
    · refine ⟨t, i, h, by omega, fun k hk => ?_⟩
      obtain ⟨k, rfl⟩ := c_up (k := k) (by omega)
      rw [spec_l02Spoilt.j0, if_pos hf, if_neg h0]
  · refine ⟨t, i, h, by omega, fun k hk => ?_⟩
    obtain ⟨k, rfl⟩ := c_up (k := k) (by omega)
    rw [spec_l02Spoilt.j0, if_neg hf]
theorem c_sploilt {l : List Int} {i : Int} (h : Int) (s : CSt l i) (t : ByteArray) (ht : t.size ≤ 5000) : ∃ (u : ByteArray) (i' h' : Int), u.size ≤ 5001 ∧ ∀ k, 4 < k → spec_l02Spoilt.f k l i h t = some (u, i', h') := by
  obtain ⟨m, i1, h1, e1, _, _, _, s1⟩ := c_below h s 12
  by_cases c0 : m = 0
  · obtain ⟨u, i2, h2, hu, s2, e2⟩ := c_text1 h1 s1
    refine ⟨t ++ u, i2, h2, by rw [ByteArray.size_append]; omega, fun k hk => ?_⟩
    unfold spec_l02Spoilt.f
    rw [e1]
    simp only [Option.bind_some]
    rw [if_pos c0, e2 k (by omega)]
    simp only [Option.bind_some]
    rw [if_pos (by omega)]
  · by_cases c1 : m = 1
    · obtain ⟨y, i2, h2, e2, y0, y1, _, s2⟩ := c_below h1 s1 ((t.size : Int) + 1)
      have y2 := y1 (by omega)
      refine ⟨t.extract 0 y.toNat, i2, h2, by rw [ByteArray.size_extract]; omega, fun k hk => ?_⟩
      unfold spec_l02Spoilt.f
      rw [e1]
      simp only [Option.bind_some]
      rw [if_neg c0, if_pos c1, c_wrap (n := (t.size : Int) + 1) (by omega) (by omega), e2]
      simp only [Option.bind_some]
      rw [if_pos (by omega), if_pos (by omega)]
    · by_cases c2 : m = 2
      · obtain ⟨u, i', h', hu, q⟩ := c_sploilt0 (m == 2) h1 s1 t ht
        refine ⟨u, i', h', hu, fun k hk => ?_⟩
        unfold spec_l02Spoilt.f
        rw [e1]
        simp only [Option.bind_some]
        rw [if_neg c0, if_neg c1, if_pos c2]
        exact q k hk
      · obtain ⟨u, i', h', hu, q⟩ := c_sploilt0 (m == 3) h1 s1 t ht
        refine ⟨u, i', h', hu, fun k hk => ?_⟩
        unfold spec_l02Spoilt.f
        rw [e1]
        simp only [Option.bind_some]
        rw [if_neg c0, if_neg c1, if_neg c2]
        exact q k hk
theorem c_lst_size : ∀ (l : List S62) (acc : ByteArray), (∀ x ∈ l, 0 ≤ x.f1 ∧ x.f1 ≤ 255) → (c_lst acc l).1.size ≤ acc.size + 39 * l.length
  | [], acc, _ => by rw [c_lst]; simp
  | x :: r, acc, h => by
    obtain ⟨a, b⟩ := h x List.mem_cons_self
    rw [c_lst]
    by_cases hx : c_in x.f0 0 17 = true
    · rw [if_pos hx]
      have h1 := c_lst_size r (acc ++ c_line x) (fun y hy => h y (List.mem_cons_of_mem _ hy))
      have h2 := c_line_size x a b
      rw [ByteArray.size_append] at h1
      rw [List.length_cons]
      omega
    · rw [if_neg hx]
      exact Nat.zero_le _
theorem c_listing_size (l : List S62) : (c_listing l).1.size ≤ 2340 := by
  unfold c_listing
  by_cases hc : c_codeOk l = true
  · rw [if_pos hc]
    obtain ⟨a, b⟩ := c_code_args hc
    have := c_lst_size l (⟨#[]⟩ : ByteArray) b
    have e : (⟨#[]⟩ : ByteArray).size = 0 := rfl
    omega
  · rw [if_neg hc]
    exact Nat.zero_le _
theorem c_pickS {l : List Int} {i : Int} (h : Int) (s : CSt l i) (xs : List ByteArray) (hx : 0 < xs.length) (hl : xs.length ≤ 1000) : ∃ (x : ByteArray) (i' h' : Int), spec_l01Pick.f l i h xs = some (x, i', h') ∧ x ∈ xs := by
  obtain ⟨y, i1, h1, e1, y0, y1, _, s1⟩ := c_below h s (xs.length : Int)
  have y2 := y1 (by omega)
  unfold spec_l01Pick.f
  rw [e1]
  simp only [Option.bind_some]
  rw [if_pos y0, if_pos (by omega)]
  refine ⟨_, _, _, rfl, ?_⟩
  have hy : y.toNat < xs.length := by omega
  have hr : rdOf ByteArray.empty xs y = xs[y.toNat] := by simp [rdOf, List.getD_eq_getElem?_getD, hy]
  rw [hr]
  exact List.getElem_mem _
theorem c_DrawAssemble (l : List Int) (hl : l.length ≤ 4611686018427387904) : ∃ (t : ByteArray), t.size ≤ 6000 ∧ ∀ k, 4000 < k → spec_DrawAssemble.f k l = some t := by
  obtain ⟨h0, e0⟩ := c_l01New l hl
  obtain ⟨r, i1, h1, hr, s1, q1⟩ := c_l05Code (l := l) (i := 0) h0 ⟨by omega, by omega, hl⟩
  obtain ⟨m, i2, h2, e2, _, _, _, s2⟩ := c_below h1 s1 6
  have hz := c_listing_size r
  have head : ∀ k, 4000 < k → spec_DrawAssemble.f k l = (if m = 0 then ((spec_l01Pick.f l i2 h2 (([(⟨#[112, 117, 115, 104, 32, 50, 53, 54]⟩ : ByteArray), (⟨#[119, 104, 97, 116]⟩ : ByteArray), (⟨#[112, 117, 115, 104, 32, 49, 32, 50]⟩ : ByteArray), (⟨#[97, 100, 100, 32, 120]⟩ : ByteArray), (⟨#[101, 110, 100]⟩ : ByteArray), (⟨#[10, 32, 32, 10, 112, 117, 115, 104]⟩ : ByteArray), (⟨#[7]⟩ : ByteArray)] : List ByteArray))).bind fun bt458 => (if (c_listing r).1.size + bt458.1.size ≤ 9223372036854775807 then (some ((c_listing r).1 ++ bt458.1)) else (none))) else (if m = 1 then ((spec_l02Spoilt.f k l i2 h2 (c_listing r).1).bind fun bt461 => (some bt461.1)) else (some (c_listing r).1))) := by
    intro k hk
    unfold spec_DrawAssemble.f
    rw [e0 k hk, Option.bind_some]
    dsimp only
    rw [q1 k (by omega), Option.bind_some]
    dsimp only
    rw [c_Listing_spec r (by omega) k (by omega), Option.bind_some, e2, Option.bind_some]
  by_cases c0 : m = 0
  · obtain ⟨x, i3, h3, e3, hx⟩ := c_pickS h2 s2 [(⟨#[112, 117, 115, 104, 32, 50, 53, 54]⟩ : ByteArray), (⟨#[119, 104, 97, 116]⟩ : ByteArray), (⟨#[112, 117, 115, 104, 32, 49, 32, 50]⟩ : ByteArray), (⟨#[97, 100, 100, 32, 120]⟩ : ByteArray), (⟨#[101, 110, 100]⟩ : ByteArray), (⟨#[10, 32, 32, 10, 112, 117, 115, 104]⟩ : ByteArray), (⟨#[7]⟩ : ByteArray)] (by simp) (by simp)
    have hs : x.size ≤ 8 := by
      simp only [List.mem_cons, List.not_mem_nil, or_false] at hx
      rcases hx with rfl | rfl | rfl | rfl | rfl | rfl | rfl <;> decide
    refine ⟨(c_listing r).1 ++ x, by rw [ByteArray.size_append]; omega, fun k hk => ?_⟩
    rw [head k hk, if_pos c0, e3, Option.bind_some, if_pos (by dsimp only; omega)]
  · by_cases c1 : m = 1
    · obtain ⟨u, i3, h3, hu, e3⟩ := c_sploilt h2 s2 (c_listing r).1 (by omega)
      refine ⟨u, by omega, fun k hk => ?_⟩
      rw [head k hk, if_neg c0, if_pos c1, e3 k (by omega)]
      rfl
    · refine ⟨(c_listing r).1, by omega, fun k hk => ?_⟩
      rw [head k hk, if_neg c0, if_neg c1]
theorem c_DrawRight (l : List Int) (hl : l.length ≤ 4611686018427387904) : ∃ (r : List S62), r.length ≤ 46 ∧ ∀ k, 4000 < k → spec_DrawRightCode.f k l = some r := by
  obtain ⟨h0, e0⟩ := c_l01New l hl
  obtain ⟨r, i1, h1, hr, s1, q1⟩ := c_l05Code (l := l) (i := 0) h0 ⟨by omega, by omega, hl⟩
  refine ⟨r, hr, fun k hk => ?_⟩
  unfold spec_DrawRightCode.f
  rw [e0 k hk, Option.bind_some]
  dsimp only
  rw [q1 k (by omega)]
  rfl

/-! ### readcode -/
def c_code : List UInt8 → List S62
  | a :: b :: l => ⟨(a.toNat : Int), (b.toNat : Int)⟩ :: c_code l
  | _ => []
theorem c_code_len (n : Nat) : ∀ l : List UInt8, l.length ≤ n → (c_code l).length ≤ n := by
  induction n using Nat.strongRecOn with
  | ind n ih =>
    intro l hl
    match l with
    | [] => simp [c_code]
    | [_] => simp [c_code]
    | a :: b :: l =>
      rw [c_code, List.length_cons]
      rw [List.length_cons, List.length_cons] at hl
      have := ih (n - 2) (by omega) l (by omega)
      omega
def c_readCode (s : ByteArray) : List S62 × Bool := if s.size % 2 = 0 ∧ s.size ≤ 120 then (c_code s.data.toList, true) else ([], false)
theorem c_readCode_len (s : ByteArray) : (c_readCode s).1.length ≤ 120 := by
  unfold c_readCode
  split
  · exact c_code_len 120 _ (by rw [data_length]; omega)
  · simp

/-! ### codeback -/
theorem c_code_text (l : List S62) (h : l.all c_okI = true) : c_code ((c_text l).map fun n => UInt8.ofNat n.toNat) = l := by
  induction l with
  | nil => rfl
  | cons x l ih =>
    rw [List.all_cons, Bool.and_eq_true] at h
    have hx := h.1
    unfold c_okI at hx
    rw [Bool.and_eq_true, c_in_iff, c_in_iff] at hx
    have e0 : ((UInt8.ofNat (x.f0 % 256).toNat).toNat : Int) = x.f0 := by
      rw [UInt8.toNat_ofNat_of_lt' (by show _ < 256; omega)]
      omega
    have e1 : ((UInt8.ofNat (x.f1 % 256).toNat).toNat : Int) = x.f1 := by
      rw [UInt8.toNat_ofNat_of_lt' (by show _ < 256; omega)]
      omega
    rw [c_text_cons, List.map_append, List.map_cons, List.map_cons, List.map_nil]
    show (⟨((UInt8.ofNat (x.f0 % 256).toNat).toNat : Int), ((UInt8.ofNat (x.f1 % 256).toNat).toNat : Int)⟩ : S62) :: c_code ((c_text l).map fun n => UInt8.ofNat n.toNat) = x :: l
    rw [ih h.2, e0, e1]
theorem c_text_code (n : Nat) : ∀ L : List UInt8, L.length = 2 * n → (c_code L).length = n ∧ (c_code L).all c_okI = true ∧ (c_text (c_code L)).map (fun n => UInt8.ofNat n.toNat) = L := by
  induction n with
  | zero =>
    intro L hL
    have : L = [] := List.eq_nil_of_length_eq_zero (by omega)
    subst this
    exact ⟨rfl, rfl, rfl⟩
  | succ n ih =>
    intro L hL
    match L, hL with
    | a :: b :: L, hL =>
      obtain ⟨q1, q2, q3⟩ := ih L (by simp only [List.length_cons] at hL; omega)
      have ha := a.toNat_lt
      have hb := b.toNat_lt
      refine ⟨by rw [c_code, List.length_cons, q1], ?_, ?_⟩
      · rw [c_code, List.all_cons, q2, Bool.and_true]
        unfold c_okI
        rw [Bool.and_eq_true, c_in_iff, c_in_iff]
        simp only
        omega
      · have e0 : ((a.toNat : Int) % 256).toNat = a.toNat := by omega
        have e1 : ((b.toNat : Int) % 256).toNat = b.toNat := by omega
        rw [c_code, c_text_cons, List.map_append, q3, List.map_cons, List.map_cons, List.map_nil, e0, e1, UInt8.ofNat_toNat, UInt8.ofNat_toNat]
        rfl
theorem c_text_length (l : List S62) : (c_text l).length = 2 * l.length := by
  induction l with
  | nil => rfl
  | cons x l ih =>
    rw [c_text_cons, List.length_append, List.length_cons, ih]
    simp only [List.length_cons, List.length_nil]
    omega
theorem c_read_text (l : List S62) (h : c_codeOk l = true) : c_readCode (strOfNums (c_text l)) = (l, true) := by
  unfold c_codeOk at h
  rw [Bool.and_eq_true, decide_eq_true_iff] at h
  unfold c_readCode
  rw [strOfNums_size, c_text_length, if_pos (by omega), strOfNums_data, c_code_text l h.1]
theorem c_text_read (t : ByteArray) (h : (c_readCode t).2 = true) : (c_codeText (c_readCode t).1).1 = t := by
  unfold c_readCode at h ⊢
  by_cases hc : t.size % 2 = 0 ∧ t.size ≤ 120
  · rw [if_pos hc]
    obtain ⟨q1, q2, q3⟩ := c_text_code (t.size / 2) t.data.toList (by rw [data_length]; omega)
    have hok : c_codeOk (c_code t.data.toList) = true := by
      unfold c_codeOk
      rw [q2, q1, Bool.true_and, decide_eq_true_iff]
      omega
    show (c_codeText (c_code t.data.toList)).1 = t
    unfold c_codeText
    rw [if_pos hok]
    apply c_ext
    rw [strOfNums_data, q3]
  · rw [if_neg hc] at h
    exact absurd h (by decide)
theorem c_sameCode_l (l : List S62) (hl : l.length ≤ 9223372036854775807) (d : Nat) : ∀ (k i : Nat), l.length - i = d → i ≤ l.length → d < k → laws_sameCode.l0 k l l i = some true := by
  induction d with
  | zero =>
    intro k i hd hi hk
    obtain ⟨k, rfl⟩ := c_up (k := k) (by omega)
    rw [laws_sameCode.l0, if_neg (by omega)]
  | succ d ih =>
    intro k i hd hi hk
    obtain ⟨k, rfl⟩ := c_up (k := k) (by omega)
    rw [laws_sameCode.l0, if_pos (by omega), if_pos (by omega), if_pos (by omega), if_neg (by simp), c_inc' (n := l.length) (by omega) hl]
    exact ih k (i + 1) (by omega) (by omega) (by omega)
theorem c_sameCode (l : List S62) (hl : l.length ≤ 9223372036854775807) (k : Nat) (hk : l.length < k) : laws_sameCode.f k l l = some true := by
  unfold laws_sameCode.f
  rw [if_pos rfl]
  exact c_sameCode_l l hl l.length k 0 (by omega) (by omega) hk

/-! ### places -/
theorem c_big (l : List Int) : laws_big.f l = some (decide ((l.length : Int) > 1048576)) := rfl

/-! ### the law -/
theorem FnListings : laws_FnListings.Pure := by
  intro l hl _ _
  unfold maxLen at hl
  by_cases hb : (l.length : Int) > 1048576
  · refine ⟨0, ?_⟩
    unfold laws_FnListings.f
    rw [c_big, Option.bind_some, if_pos (decide_eq_true hb)]
  · obtain ⟨r, hr, er⟩ := c_DrawRight l (by omega)
    obtain ⟨t, ht, et⟩ := c_DrawAssemble l (by omega)
    obtain ⟨k0, h0⟩ := c_Assemble_spec t (by omega)
    have hz := c_listing_size r
    have hn : (c_assemble t).1.length ≤ 60 := c_asm_len _ _ _ (by simp)
    refine ⟨k0 + 2100010, ?_⟩
    have a1 : ∀ k, 2100000 ≤ k → impl_Assemble.f k (c_listing r).1 = some (c_assemble (c_listing r).1) := fun k hk => c_Assemble_impl _ (by omega) k hk
    have a2 : ∀ k, 2100000 ≤ k → impl_Assemble.f k t = some (c_assemble t) := fun k hk => c_Assemble_impl _ (by omega) k hk
    have b1 := c_asm_back r
    have b2 := c_listing_no r
    have q1 := fun k hk => c_sameCode (c_assemble t).1 (by omega) k hk
    have q2 := fun k hk => c_sameCode r (by omega) k hk
    unfold laws_FnListings.f
    rw [c_big, Option.bind_some, if_neg (by rw [decide_eq_true_iff]; exact hb), er _ (by omega), Option.bind_some, c_Listing_impl r (by omega) _ (by omega), Option.bind_some, c_Listing_spec r (by omega) _ (by omega), Option.bind_some, a1 _ (by omega), Option.bind_some,
      if_neg (by simp), bne_self_eq_false, laws_FnListings.j0, if_neg (by decide), et _ (by omega), Option.bind_some, a2 _ (by omega), Option.bind_some, h0 _ (by omega), Option.bind_some, if_pos rfl, q1 _ (by omega), Option.bind_some, if_pos rfl]
    by_cases hok : (c_listing r).2 = true
    · rw [if_pos hok, b1 hok]
      dsimp only
      rw [if_pos rfl, q2 _ (by omega), Option.bind_some]
    · rw [if_neg hok, b2 (by simpa using hok), if_pos (by rw [c_toList])]

end Go.Proofs.YtenhjngddagghaaDoor.Pure
