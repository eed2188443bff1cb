/- PartsOf of the program answers as the reference's PartsOf, for every text (the law itself answers true of one of more than 2^20 bytes). -/
import Derived.Test.YteehopjgmgelnaaDoorMFnExactPartsOfx3
namespace Go.Proofs.YteehopjgmgelnaaDoor.Pure
open Go.RowKit Go.Proofs.YteehopjgmgelnaaDoor.PFnExactPartsOf Go.Proofs.YteehopjgmgelnaaDoorW.PrintWords Go.Proofs.YteehopjgmgelnaaDoorW.PrintLast
set_option linter.unusedVariables false
set_option linter.unusedSimpArgs false

/-! ### base -/
theorem c_wrap {n : Int} (h0 : -9223372036854775808 ≤ n) (h1 : n ≤ 9223372036854775807) : wrap64 n = n := by unfold wrap64; omega
theorem c_wf {n : Int} (h : (Lit.int .i64 n).wf = true) : -9223372036854775808 ≤ n ∧ n ≤ 9223372036854775807 := by
  simpa [Lit.wf, IntKind.min, IntKind.max, IntKind.signed, IntKind.bits] using h
theorem c_wf32 {n : Int} (h : (Lit.int .u32 n).wf = true) : 0 ≤ n ∧ n ≤ 4294967295 := by
  simpa [Lit.wf, IntKind.min, IntKind.max, IntKind.signed, IntKind.bits] using h
theorem c_up {k : Nat} (h : 0 < k) : ∃ m, k = m + 1 := ⟨k - 1, by omega⟩

/-! ### ints -/
theorem c_rd {l : List Int} {i : Nat} (h : i < l.length) : rd l (i : Int) = l[i]'h := by
  unfold rd
  simp [h]
theorem c_rd_app (pre : List Int) (a : Int) (l : List Int) : rd (pre ++ a :: l) (pre.length : Int) = a := by
  unfold rd
  simp
theorem c_inc {i n : Nat} (h : i < n) (hn : n ≤ 9223372036854775807) : wrap64 ((i : Int) + 1) = ((i + 1 : Nat) : Int) := by rw [c_wrap (by omega) (by omega)]; omega

/-! ### drop -/
theorem c_bt (s : ByteArray) (i : Nat) (h : i < s.size) : bt s (i : Int) = ((s[i]'h).toNat : Int) := by
  unfold bt
  simp [h]
theorem c_drop (s : ByteArray) (i : Nat) (h : i < s.size) : ∃ b : UInt8, bt s (i : Int) = (b.toNat : Int) ∧ s.data.toList.drop i = b :: s.data.toList.drop (i + 1) := by
  refine ⟨s[i]'h, c_bt s i h, ?_⟩
  rw [List.drop_eq_getElem_cons (by rw [data_length]; exact h)]
  rfl
theorem c_drop_end (s : ByteArray) (i : Nat) (h : s.size ≤ i) : s.data.toList.drop i = [] := List.drop_eq_nil_of_le (by rw [data_length]; exact h)

/-! ### bytes -/
theorem c_toList (s : ByteArray) : s.toList = s.data.toList := ByteArray.toList_eq s
theorem c_extract (s : ByteArray) (a b : Nat) : (s.extract a b).data.toList = (s.data.toList.take b).drop a := by
  simp [ByteArray.data_extract, Array.toList_extract, List.extract_eq_take_drop, List.drop_take]
theorem c_ext {s t : ByteArray} (h : s.data.toList = t.data.toList) : s = t := by
  cases s; cases t; congr; exact Array.toList_inj.1 h

/-! ### within -/
def c_in (n l h : Int) : Bool := decide (l ≤ n) && decide (n ≤ h)
theorem c_in_iff {n l h : Int} : c_in n l h = true ↔ l ≤ n ∧ n ≤ h := by simp [c_in]
theorem c_in_no {n l h : Int} : ¬ c_in n l h = true ↔ n < l ∨ h < n := by rw [c_in_iff]; omega

/-! ### within_i -/
theorem c_within (n l h : Int) : impl_within.f n l h = some (c_in n l h) := by
  unfold impl_within.f c_in
  by_cases h0 : n ≥ l
  · rw [if_pos h0]; simp [h0]
  · rw [if_neg h0]; simp; omega

/-! ### partsof -/
def c_words : List UInt8 → List UInt8 → List (List UInt8)
  | cur, [] => if cur = [] then [] else [cur]
  | cur, c :: t => if c = 32 then (if cur = [] then c_words [] t else cur :: c_words [] t) else c_words (cur ++ [c]) t
def c_mk (l : List UInt8) : ByteArray := ⟨l.toArray⟩
theorem c_mk_data (l : List UInt8) : (c_mk l).data.toList = l := by simp [c_mk]
theorem c_mk_of (s : ByteArray) : c_mk s.data.toList = s := c_ext (c_mk_data _)
def c_fine (l : List UInt8) : Bool := l.all fun c => decide (32 ≤ c.toNat ∧ c.toNat ≤ 126)
theorem c_fine_cons (c : UInt8) (l : List UInt8) : c_fine (c :: l) = (decide (32 ≤ c.toNat ∧ c.toNat ≤ 126) && c_fine l) := rfl
def c_fin (l : List ByteArray) : List ByteArray × Bool := if (l.length : Int) > 10 then ([], false) else (l, true)
def c_out (b : Bool) (l : List ByteArray) : List ByteArray × Bool := if b = false then ([], false) else c_fin l
def c_parts (s : ByteArray) : List ByteArray × Bool := if (s.size : Int) > 600 then ([], false) else c_out (c_fine s.data.toList) ((c_words [] s.data.toList).map c_mk)
theorem c_out_true (l : List ByteArray) : c_out true l = c_fin l := rfl
theorem c_fin_some (l : List ByteArray) : (if (l.length : Int) > 10 then some (([] : List ByteArray), false) else some (l, true)) = some (c_fin l) := by
  unfold c_fin
  by_cases h : (l.length : Int) > 10
  · rw [if_pos h, if_pos h]
  · rw [if_neg h, if_neg h]
theorem c_toNat32 {c : UInt8} : c.toNat = 32 ↔ c = 32 := by
  constructor
  · intro h; exact UInt8.toNat_inj.1 h
  · intro h; subst h; rfl
theorem c_partsl_spec (s : ByteArray) (hs : s.size ≤ 600) (d : Nat) : ∀ (k b i : Nat) (acc : List ByteArray), s.size - i = d → i ≤ s.size → b ≤ i → acc.length ≤ i → 3 * d + 4 ≤ k →
    spec_PartsOf.l0 k s acc b i = some (c_out (c_fine (s.data.toList.drop i)) (acc ++ (c_words ((s.data.toList.take i).drop b) (s.data.toList.drop i)).map c_mk)) := by
  have hlen : s.data.toList.length = s.size := data_length s
  induction d with
  | zero =>
    intro k b i acc hd hi hb ha hk
    obtain ⟨k, rfl⟩ : ∃ m, k = m + 4 := ⟨k - 4, by omega⟩
    have he : i = s.size := by omega
    rw [spec_PartsOf.l0, if_pos (by omega), if_neg (by omega), spec_PartsOf.j1, if_neg (by decide), if_neg (by omega), spec_PartsOf.j2, if_neg (by decide), c_drop_end s i (by omega)]
    have hf : c_fine [] = true := rfl
    rw [hf, c_out_true, c_words]
    by_cases h : b < i
    · have hne : ¬ (s.data.toList.take i).drop b = [] := by
        intro e
        have := congrArg List.length e
        rw [List.length_drop, List.length_take, hlen, List.length_nil] at this
        omega
      rw [if_pos (by omega), if_pos (by omega), if_pos (by omega), if_pos (by omega), if_pos (by omega), c_inc (n := 9223372036854775807) (by omega) (by omega), spec_PartsOf.l0, if_neg (by omega), if_neg hne]
      have hx : s.extract ((b : Int)).toNat ((i : Int)).toNat = c_mk ((s.data.toList.take i).drop b) := c_ext (by rw [c_extract, c_mk_data, Int.toNat_natCast, Int.toNat_natCast])
      rw [hx]
      exact c_fin_some _
    · have hbi : b = i := by omega
      have hne : (s.data.toList.take i).drop b = [] := List.drop_eq_nil_of_le (by rw [List.length_take, hlen]; omega)
      rw [if_neg (by omega), c_inc (n := 9223372036854775807) (by omega) (by omega), spec_PartsOf.l0, if_neg (by omega), if_pos hne, List.map_nil, List.append_nil]
      exact c_fin_some _
  | succ d ih =>
    intro k b i acc hd hi hb ha hk
    obtain ⟨k, rfl⟩ : ∃ m, k = m + 3 := ⟨k - 3, by omega⟩
    obtain ⟨c, hc, hdr⟩ := c_drop s i (by omega)
    have hcb := c.toNat_lt
    rw [spec_PartsOf.l0, if_pos (by omega), if_pos (by omega), if_pos (by omega), hc, hdr, c_fine_cons]
    by_cases h1 : (c.toNat : Int) < 32
    · rw [if_pos h1, spec_PartsOf.j1, if_pos rfl]
      have : decide (32 ≤ c.toNat ∧ c.toNat ≤ 126) = false := decide_eq_false (by omega)
      rw [this]
      rfl
    · rw [if_neg h1]
      by_cases h2 : (c.toNat : Int) > 126
      · rw [spec_PartsOf.j1, if_pos (decide_eq_true h2)]
        have : decide (32 ≤ c.toNat ∧ c.toNat ≤ 126) = false := decide_eq_false (by omega)
        rw [this]
        rfl
      · have h12 : decide (32 ≤ c.toNat ∧ c.toNat ≤ 126) = true := decide_eq_true (by omega)
        rw [spec_PartsOf.j1, if_neg (by rw [decide_eq_false h2]; decide), if_pos (by omega), if_pos (by omega), spec_PartsOf.j2, hc, h12, Bool.true_and, c_words]
        by_cases h3 : c = 32
        · have h3n := c_toNat32.2 h3
          have hn : ((c.toNat : Int) != 32) = false := bne_eq_false_iff_eq.2 (by omega)
          have hcur : (s.data.toList.take (i + 1)).drop (i + 1) = [] := List.drop_eq_nil_of_le (by rw [List.length_take, hlen]; omega)
          rw [hn, if_neg (by decide), if_pos h3]
          by_cases h : b < i
          · have hne : ¬ (s.data.toList.take i).drop b = [] := by
              intro e
              have := congrArg List.length e
              rw [List.length_drop, List.length_take, hlen, List.length_nil] at this
              omega
            have hx : s.extract ((b : Int)).toNat ((i : Int)).toNat = c_mk ((s.data.toList.take i).drop b) := c_ext (by rw [c_extract, c_mk_data, Int.toNat_natCast, Int.toNat_natCast])
            rw [if_pos (by omega), if_pos (by omega), if_pos (by omega), if_pos (by omega), if_pos (by omega), c_inc (n := 9223372036854775807) (by omega) (by omega), if_neg hne, hx,
              ih k (i + 1) (i + 1) _ (by omega) (by omega) (by omega) (by rw [List.length_append]; simp; omega) (by omega), hcur]
            simp
          · have hne : (s.data.toList.take i).drop b = [] := List.drop_eq_nil_of_le (by rw [List.length_take, hlen]; omega)
            rw [if_neg (by omega), c_inc (n := 9223372036854775807) (by omega) (by omega), if_pos hne, ih k (i + 1) (i + 1) _ (by omega) (by omega) (by omega) (by omega) (by omega), hcur]
        · have hn : ((c.toNat : Int) != 32) = true := bne_iff_ne.2 (fun e => h3 (c_toNat32.1 (by omega)))
          have hcur : (s.data.toList.take (i + 1)).drop b = (s.data.toList.take i).drop b ++ [c] := by
            have hget : s.data.toList[i]? = some c := by
              have := congrArg List.head? hdr
              rwa [List.head?_drop, List.head?_cons] at this
            rw [List.take_add_one, hget, Option.toList_some, List.drop_append_of_le_length (by rw [List.length_take, hlen]; omega)]
          rw [hn, if_pos rfl, c_inc (n := 9223372036854775807) (by omega) (by omega), if_neg h3, ih k b (i + 1) acc (by omega) (by omega) (by omega) (by omega) (by omega), hcur]
theorem c_parts_spec (s : ByteArray) (k : Nat) (hk : 2000 ≤ k) : spec_PartsOf.f k s = some (c_parts s) := by
  unfold spec_PartsOf.f c_parts
  rw [Option.bind_some]
  by_cases h : (s.size : Int) > 600
  · rw [if_pos h, if_pos h]
  · rw [if_neg h, if_neg h]
    have := c_partsl_spec s (by omega) s.size k 0 0 [] rfl (by omega) (Nat.le_refl _) (by simp) (by omega)
    simpa using this
def c_full (l : List ByteArray) : List ByteArray := l.filter fun b => decide (b.data.toList ≠ [])
theorem c_full_pos (b : ByteArray) (l : List ByteArray) (h : b.data.toList ≠ []) : c_full (b :: l) = b :: c_full l := List.filter_cons_of_pos (p := fun b : ByteArray => decide (b.data.toList ≠ [])) (decide_eq_true h)
theorem c_full_neg (b : ByteArray) (l : List ByteArray) (h : b.data.toList = []) : c_full (b :: l) = c_full l := List.filter_cons_of_neg (p := fun b : ByteArray => decide (b.data.toList ≠ [])) (fun e => (of_decide_eq_true e) h)
theorem c_partsl1 (L : List ByteArray) (hL : L.length ≤ 1000) (d : Nat) : ∀ (k i : Nat) (acc : List ByteArray), L.length - i = d → i ≤ L.length → acc.length ≤ i → d + 1 ≤ k →
    impl_PartsOf.l1 k acc L (L.length : Int) i = some (c_fin (acc ++ c_full (L.drop i))) := by
  induction d with
  | zero =>
    intro k i acc hd hi ha hk
    obtain ⟨k, rfl⟩ := c_up (k := k) (by omega)
    rw [impl_PartsOf.l1, if_neg (by omega), List.drop_eq_nil_of_le (by omega)]
    have : c_full [] = [] := rfl
    rw [this, List.append_nil]
    exact c_fin_some _
  | succ d ih =>
    intro k i acc hd hi ha hk
    obtain ⟨k, rfl⟩ := c_up (k := k) (by omega)
    have hi' : i < L.length := by omega
    have hr : rdOf ByteArray.empty L (i : Int) = L[i] := by simp [rdOf, List.getD_eq_getElem?_getD, hi']
    rw [impl_PartsOf.l1, if_pos (by omega), if_pos (by omega), if_pos (by omega), hr, c_toList, c_inc (n := 9223372036854775807) (by omega) (by omega), List.drop_eq_getElem_cons hi']
    by_cases h : L[i].data.toList = []
    · rw [if_pos h, ih k (i + 1) acc (by omega) (by omega) (by omega) (by omega)]
      have : c_full (L[i] :: L.drop (i + 1)) = c_full (L.drop (i + 1)) := c_full_neg _ _ h
      rw [this]
    · rw [if_neg h, if_pos (by omega), ih k (i + 1) _ (by omega) (by omega) (by rw [List.length_append]; simp; omega) (by omega)]
      have : c_full (L[i] :: L.drop (i + 1)) = L[i] :: c_full (L.drop (i + 1)) := c_full_pos _ _ h
      rw [this, List.append_assoc]
      rfl
def c_sp : ByteArray := ⟨#[32]⟩
def c_pieces (s : ByteArray) : List ByteArray := Lib.splitB c_sp 0 (Lib.countB s c_sp) s
theorem c_pieces_len (s : ByteArray) : (c_pieces s).length ≤ s.size + 1 := by
  have h := Lib.splitB_all c_sp (by decide) 0 _ s rfl
  have hle := Lib.countB_le c_sp (by decide) s.size s (Nat.le_refl _)
  unfold c_pieces
  omega
theorem c_partsl_impl (s : ByteArray) (hs : s.size ≤ 600) (d : Nat) : ∀ (k i : Nat), s.size - i = d → i ≤ s.size → d + s.size + 10 ≤ k →
    impl_PartsOf.l0 k s [] i = some (c_out (c_fine (s.data.toList.drop i)) (c_full (c_pieces s))) := by
  induction d with
  | zero =>
    intro k i hd hi hk
    obtain ⟨k, rfl⟩ := c_up (k := k) (by omega)
    have hsp : strings_Split.f s (⟨#[32]⟩ : ByteArray) = some (c_pieces s) := by
      unfold strings_Split.f
      rw [if_pos ⟨by omega, by decide⟩]
      rfl
    have hpl := c_pieces_len s
    have h1 := c_partsl1 (c_pieces s) (by omega) (c_pieces s).length k 0 [] (by omega) (by omega) (by simp) (by omega)
    rw [impl_PartsOf.l0, if_neg (by omega), c_drop_end s i (by omega), hsp, Option.bind_some]
    simpa [c_out, c_fine] using h1
  | succ d ih =>
    intro k i hd hi hk
    obtain ⟨k, rfl⟩ := c_up (k := k) (by omega)
    obtain ⟨c, hc, hdr⟩ := c_drop s i (by omega)
    have hcb := c.toNat_lt
    rw [impl_PartsOf.l0, if_pos (by omega), if_pos (by omega), hc, c_wrap (by omega) (by omega), c_within, Option.bind_some, hdr, c_fine_cons]
    by_cases h : 32 ≤ c.toNat ∧ c.toNat ≤ 126
    · rw [if_pos (c_in_iff.2 ⟨by omega, by omega⟩), c_inc (n := 9223372036854775807) (by omega) (by omega), ih k (i + 1) (by omega) (by omega) (by omega), decide_eq_true h, Bool.true_and]
    · rw [if_neg (c_in_no.2 (by omega)), decide_eq_false h]
      rfl
theorem c_words_none : ∀ (l cur : List UInt8), (∀ (k : Nat), l[k]? ≠ some 32) → c_words cur l = if cur ++ l = [] then [] else [cur ++ l]
  | [], cur, _ => by rw [c_words, List.append_nil]
  | c :: t, cur, h => by
    have h0 : c ≠ 32 := fun e => h 0 (by rw [e]; rfl)
    rw [c_words, if_neg h0, c_words_none t (cur ++ [c]) (fun k => by simpa using h (k + 1)), List.append_assoc]
    rfl
theorem c_words_some : ∀ (l cur : List UInt8) (o : Nat), l[o]? = some 32 → (∀ (k : Nat), k < o → l[k]? ≠ some 32) → c_words cur l = if cur ++ l.take o = [] then c_words [] (l.drop (o + 1)) else (cur ++ l.take o) :: c_words [] (l.drop (o + 1))
  | [], cur, o, h, _ => by simp at h
  | c :: t, cur, 0, h, _ => by
    have h0 : c = 32 := by simpa using h
    rw [c_words, if_pos h0]
    simp
  | c :: t, cur, o + 1, h, hn => by
    have h0 : c ≠ 32 := fun e => hn 0 (by omega) (by rw [e]; rfl)
    rw [c_words, if_neg h0, c_words_some t (cur ++ [c]) o (by simpa using h) (fun k hk => by simpa using hn (k + 1) (by omega)), List.append_assoc]
    rfl
theorem c_pieces_words : ∀ (n : Nat) (s : ByteArray), s.size ≤ n → c_full (c_pieces s) = (c_words [] s.data.toList).map c_mk
  | n, s, hn => by
    have hix : Lib.indexB s c_sp = Lib.indexByte s.data.toList 32 := Lib.index_one _ _
    rcases Lib.indexB_cases s c_sp with h | ⟨i, h, hroom⟩
    · have hno := Lib.indexByte_none (hix.symm.trans h)
      rw [c_words_none _ _ hno]
      unfold c_pieces
      rw [Lib.splitB_miss _ _ _ _ h, List.nil_append]
      by_cases he : s.data.toList = []
      · rw [if_pos he]
        rw [c_full_neg _ _ he]
        rfl
      · rw [if_neg he]
        rw [c_full_pos _ _ he, List.map_cons, List.map_nil, c_mk_of]
        rfl
    · obtain ⟨h32, hfirst⟩ := Lib.indexByte_some (hix.symm.trans h)
      have hsz : c_sp.size = 1 := rfl
      rw [hsz] at hroom
      have hc := Lib.countB_hit s c_sp i (by decide) h
      have hsize : (s.extract (i + c_sp.size) s.size).size = s.size - (i + 1) := by rw [ByteArray.size_extract, hsz]; omega
      cases n with
      | zero => omega
      | succ n =>
        have ih := c_pieces_words n (s.extract (i + c_sp.size) s.size) (by omega)
        rw [c_words_some _ _ _ h32 hfirst]
        have hp : c_pieces s = s.extract 0 (i + 0) :: c_pieces (s.extract (i + c_sp.size) s.size) := by
          unfold c_pieces
          rw [hc, Nat.add_comm, Lib.splitB_hit _ _ _ _ _ h]
        have hd : (s.extract (i + c_sp.size) s.size).data.toList = s.data.toList.drop (i + 1) := by
          rw [c_extract, hsz, List.take_of_length_le (by rw [data_length]; exact Nat.le_refl _)]
        have ht : (s.extract 0 (i + 0)).data.toList = s.data.toList.take i := by rw [c_extract, List.drop_zero, Nat.add_zero]
        rw [hd] at ih
        rw [hp, List.nil_append]
        by_cases he : s.data.toList.take i = []
        · rw [if_pos he, ← ih]
          exact c_full_neg _ _ (ht.trans he)
        · rw [if_neg he, List.map_cons, ← ih]
          rw [c_full_pos _ _ (fun e => he (ht.symm.trans e)), ← ht, c_mk_of]
theorem c_parts_impl (s : ByteArray) (k : Nat) (hk : 2000 ≤ k) : impl_PartsOf.f k s = some (c_parts s) := by
  unfold impl_PartsOf.f c_parts
  by_cases h : (s.size : Int) > 600
  · rw [if_pos h, if_pos h]
  · rw [if_neg h, if_neg h, ← c_pieces_words s.size s (Nat.le_refl _)]
    have := c_partsl_impl s (by omega) s.size k 0 (by omega) (by omega) (by omega)
    simpa using this
theorem c_parts_len (s : ByteArray) : (c_parts s).1.length ≤ 10 := by
  unfold c_parts c_out c_fin
  split
  · simp
  · split
    · simp
    · split
      · simp
      · dsimp only
        omega
theorem c_eqStr_l (l : List ByteArray) (hl : l.length ≤ 9223372036854775807) (d : Nat) : ∀ (k i : Nat), l.length - i = d → i ≤ l.length → d < k → laws_eqStringS.l0 k l l i = some true := by
  induction d with
  | zero =>
    intro k i hd hi hk
    obtain ⟨k, rfl⟩ := c_up (k := k) (by omega)
    rw [laws_eqStringS.l0, if_neg (by omega)]
  | succ d ih =>
    intro k i hd hi hk
    obtain ⟨k, rfl⟩ := c_up (k := k) (by omega)
    rw [laws_eqStringS.l0, if_pos (by omega), if_pos (by omega), if_pos (by omega), if_pos rfl, c_inc (n := l.length) (by omega) hl]
    exact ih k (i + 1) (by omega) (by omega) (by omega)
theorem c_eqStr (l : List ByteArray) (hl : l.length ≤ 9223372036854775807) (k : Nat) (hk : l.length < k) : laws_eqStringS.f k l l = some true := by
  unfold laws_eqStringS.f
  rw [if_pos rfl]
  exact c_eqStr_l l hl l.length k 0 (by omega) (by omega) hk
def c_marksL : List ByteArray := [⟨#[109, 49]⟩, ⟨#[109, 50]⟩, ⟨#[109, 51]⟩, ⟨#[109, 52]⟩, ⟨#[109, 53]⟩, ⟨#[109, 54]⟩, ⟨#[109, 55]⟩, ⟨#[109, 56]⟩, ⟨#[109, 57]⟩, ⟨#[109, 49, 48]⟩]
def c_mark (i : Nat) : ByteArray := c_marksL.getD i ByteArray.empty
theorem c_markText4 : ∀ i : Nat, i < 10 → laws_markText.f 4 (1 + (i : Int)) = some (c_mark i)
  | 0, _ => by kernel_rfl
  | 1, _ => by kernel_rfl
  | 2, _ => by kernel_rfl
  | 3, _ => by kernel_rfl
  | 4, _ => by kernel_rfl
  | 5, _ => by kernel_rfl
  | 6, _ => by kernel_rfl
  | 7, _ => by kernel_rfl
  | 8, _ => by kernel_rfl
  | 9, _ => by kernel_rfl
  | n + 10, h => by omega
theorem c_markText (i : Nat) (hi : i < 10) : ∀ k, 4 ≤ k → laws_markText.f k (1 + (i : Int)) = some (c_mark i) := by
  intro k hk
  obtain ⟨d, rfl⟩ : ∃ d, k = 4 + d := ⟨k - 4, by omega⟩
  clear hk
  induction d with
  | zero => exact c_markText4 i hi
  | succ d ih => exact laws_markText.mono _ _ _ ih
def c_marks (n : Nat) : List ByteArray := (List.range n).map c_mark
theorem c_marks_len (n : Nat) : (c_marks n).length = n := by simp [c_marks]
theorem c_marks_succ (n : Nat) : c_marks (n + 1) = c_marks n ++ [c_mark n] := by simp [c_marks, List.range_succ]
theorem c_markStr_l (l : List ByteArray) : ∀ (k i : Nat), i + l.length ≤ 10 → l.length + 4 < k → laws_markStringS.l0 k (c_marks i ++ l) (1 + (i : Int)) i = some (1 + ((i + l.length : Nat) : Int), c_marks (i + l.length)) := by
  induction l with
  | nil =>
    intro k i hb hk
    obtain ⟨k, rfl⟩ := c_up (k := k) (by omega)
    rw [List.append_nil, laws_markStringS.l0, if_neg (by rw [c_marks_len]; omega)]
    simp
  | cons a l ih =>
    intro k i hb hk
    rw [List.length_cons] at hb hk
    obtain ⟨k, rfl⟩ := c_up (k := k) (by omega)
    have hlen : (c_marks i ++ a :: l).length = i + (l.length + 1) := by rw [List.length_append, c_marks_len, List.length_cons]
    have hset : (c_marks i ++ a :: l).set ((i : Int)).toNat (c_mark i) = c_marks (i + 1) ++ l := by
      rw [Int.toNat_natCast, List.set_append_right _ _ (by rw [c_marks_len]; omega), c_marks_len, Nat.sub_self, List.set_cons_zero, c_marks_succ, List.append_assoc]
      rfl
    have e1 : 1 + (i : Int) + 1 = 1 + ((i + 1 : Nat) : Int) := by omega
    have := ih k (i + 1) (by omega) (by omega)
    rw [laws_markStringS.l0, if_pos (by rw [hlen]; omega), c_markText i (by omega) k (by omega), Option.bind_some, if_pos (by omega), hset, c_inc (n := 9223372036854775807) (by omega) (by omega), c_wrap (n := 1 + (i : Int) + 1) (by omega) (by omega), e1, this]
    have e2 : i + 1 + l.length = i + (l.length + 1) := by omega
    rw [e2, List.length_cons]
theorem c_markStr (l : List ByteArray) (hb : l.length ≤ 10) (k : Nat) (hk : l.length + 4 < k) : laws_markStringS.f k l 1 = some (1 + (l.length : Int), c_marks l.length) := by
  have := c_markStr_l l k 0 (by omega) hk
  unfold laws_markStringS.f
  simpa [c_marks] using this
theorem c_heldStr_l (n : Nat) (hn : n ≤ 10) (d : Nat) : ∀ (k i : Nat), n - i = d → i ≤ n → d + 4 < k → laws_heldStringS.l0 k (c_marks n) (1 + (i : Int)) i = some (1 + (n : Int)) := by
  induction d with
  | zero =>
    intro k i hd hi hk
    obtain ⟨k, rfl⟩ := c_up (k := k) (by omega)
    rw [laws_heldStringS.l0, if_neg (by rw [c_marks_len]; omega)]
    have : i = n := by omega
    rw [this]
  | succ d ih =>
    intro k i hd hi hk
    obtain ⟨k, rfl⟩ := c_up (k := k) (by omega)
    have hr : rdOf ByteArray.empty (c_marks n) (i : Int) = c_mark i := by
      have : i < n := by omega
      simp [rdOf, c_marks, List.getD_eq_getElem?_getD, this]
    have e1 : 1 + (i : Int) + 1 = 1 + ((i + 1 : Nat) : Int) := by omega
    have := ih k (i + 1) (by omega) (by omega) (by omega)
    rw [laws_heldStringS.l0, if_pos (by rw [c_marks_len]; omega), if_pos (by omega), c_markText i (by omega) k (by omega), Option.bind_some, hr, if_pos rfl, c_inc (n := 9223372036854775807) (by omega) (by omega), c_wrap (n := 1 + (i : Int) + 1) (by omega) (by omega), e1, this]
theorem c_heldStr (n : Nat) (hn : n ≤ 10) (k : Nat) (hk : n + 4 < k) : laws_heldStringS.f k (c_marks n) 1 = some (1 + (n : Int)) := by
  have := c_heldStr_l n hn n k 0 (by omega) (by omega) hk
  unfold laws_heldStringS.f
  simpa using this

/-! ### the law -/
theorem FnExactPartsOf (a0 : ByteArray) : ∃ k, laws_FnExactPartsOf.f k a0 = some true := by
  refine ⟨3000, ?_⟩
  unfold laws_FnExactPartsOf.f
  by_cases h : (a0.size : Int) > 1048576
  · rw [if_pos h]
  · have hl := c_parts_len a0
    rw [if_neg h, c_parts_spec a0 _ (by omega), Option.bind_some, c_parts_impl a0 _ (by omega), Option.bind_some, c_eqStr _ (by omega) _ (by omega), Option.bind_some, if_pos rfl, bne_self_eq_false,
      laws_FnExactPartsOf.j0, if_neg (by decide), c_markStr _ hl _ (by omega), Option.bind_some, c_heldStr _ hl _ (by omega), Option.bind_some, if_neg (by omega), if_pos rfl, c_parts_impl a0 _ (by omega), Option.bind_some,
      c_eqStr _ (by omega) _ (by omega), Option.bind_some, if_pos rfl, bne_self_eq_false, laws_FnExactPartsOf.j1, if_neg (by decide), c_heldStr _ hl _ (by omega), Option.bind_some, if_neg (by omega), if_pos rfl]
theorem told (a0 : ByteArray) (h0 : a0.size ≤ 140737488351232) (W : World) (hO : W.ShapedOpen Tryd.prog) :
    Calls Tryd.prog 4 #[.string a0] W fun e w' => e = .returned (.bool true) ∧ Below W.heap.size W w' := by
  obtain ⟨k, h⟩ := FnExactPartsOf a0
  exact laws_FnExactPartsOf.calls k a0 true W (Tryd.laysM146.s1_3 W hO) h

end Go.Proofs.YteehopjgmgelnaaDoor.Pure
