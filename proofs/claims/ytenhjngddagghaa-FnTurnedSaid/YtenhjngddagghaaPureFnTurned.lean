/- A drawn text, sealed, with one byte turned is not unsealed; it is unsealed as it was sealed; the sum goes on, for every draw (the law itself answers true of one of more than 2^20 bytes). -/
import Derived.Test.YtenhjngddagghaaMFnTurnedx3
namespace Go.Proofs.Ytenhjngddagghaa.Pure
open Go.RowKit Go.Proofs.Ytenhjngddagghaa.PFnTurned Go.Proofs.YtenhjngddagghaaW.PrintWords Go.Proofs.YtenhjngddagghaaW.PrintLast
set_option linter.unusedVariables false
set_option linter.unusedSimpArgs false

/-! ### base -/
theorem c_wrap {n : Int} (h0 : -9223372036854775808 ≤ n) (h1 : n ≤ 9223372036854775807) : wrap64 n = n := by unfold wrap64; omega
theorem c_wf {n : Int} (h : (Lit.int .i64 n).wf = true) : -9223372036854775808 ≤ n ∧ n ≤ 9223372036854775807 := by
  simpa [Lit.wf, IntKind.min, IntKind.max, IntKind.signed, IntKind.bits] using h
theorem c_wf32 {n : Int} (h : (Lit.int .u32 n).wf = true) : 0 ≤ n ∧ n ≤ 4294967295 := by
  simpa [Lit.wf, IntKind.min, IntKind.max, IntKind.signed, IntKind.bits] using h
theorem c_up {k : Nat} (h : 0 < k) : ∃ m, k = m + 1 := ⟨k - 1, by omega⟩

/-! ### drop -/
theorem c_bt (s : ByteArray) (i : Nat) (h : i < s.size) : bt s (i : Int) = ((s[i]'h).toNat : Int) := by
  unfold bt
  simp [h]
theorem c_drop (s : ByteArray) (i : Nat) (h : i < s.size) : ∃ b : UInt8, bt s (i : Int) = (b.toNat : Int) ∧ s.data.toList.drop i = b :: s.data.toList.drop (i + 1) := by
  refine ⟨s[i]'h, c_bt s i h, ?_⟩
  rw [List.drop_eq_getElem_cons (by rw [data_length]; exact h)]
  rfl
theorem c_drop_end (s : ByteArray) (i : Nat) (h : s.size ≤ i) : s.data.toList.drop i = [] := List.drop_eq_nil_of_le (by rw [data_length]; exact h)

/-! ### summore -/
def c_odd (x : Int) : Int := if Int.tmod x 2 = 1 then Go.bits .xor .u32 ((Int.tdiv x 2) % 4294967296) 3558460437 else (Int.tdiv x 2) % 4294967296
def c_iter : Nat → Int → Int
  | 0, x => x
  | n + 1, x => c_iter n (c_odd x)
def c_crc (l : List UInt8) (x : Int) : Int := l.foldl (fun x b => c_iter 8 (Go.bits .xor .u32 x ((b.toNat : Int) % 4294967296))) x
theorem c_sum_in_impl (n : Nat) : ∀ (k : Nat) (x i : Int) (s : ByteArray), n ≤ 8 → impl_SumMore.l1 (k + n + 1) x s i (8 - n) = impl_SumMore.l0 k (c_iter n x) s (wrap64 (i + 1)) := by
  induction n with
  | zero => intro k x i s _; simp only [impl_SumMore.l1]; rw [if_neg (by omega)]; rfl
  | succ n ih =>
    intro k x i s hn
    have e : Aside0 (wrap64 (8 - ((n + 1 : Nat) : Int) + 1) = 8 - (n : Int)) := ⟨by unfold wrap64; omega⟩
    have e2 : k + (n + 1) + 1 = (k + n + 1) + 1 := by omega
    rw [e2, impl_SumMore.l1, if_pos (by omega), e.out, ih _ _ _ _ (by omega), ih _ _ _ _ (by omega)]
    simp only [c_iter, c_odd]
    split <;> rfl
theorem c_sum_impl (s : ByteArray) (hs : s.size ≤ 1048576) (d : Nat) : ∀ (k i : Nat) (x : Int), s.size - i = d → i ≤ s.size → 10 * d < k → impl_SumMore.l0 k x s i = some (c_crc (s.data.toList.drop i) x) := by
  induction d with
  | zero =>
    intro k i x hd hi hk
    obtain ⟨k, rfl⟩ := c_up (k := k) (by omega)
    simp only [impl_SumMore.l0]
    rw [if_neg (by omega), c_drop_end s i (by omega)]
    rfl
  | succ d ih =>
    intro k i x hd hi hk
    obtain ⟨k, rfl⟩ : ∃ m, k = (m + 8 + 1) + 1 := ⟨k - 10, by omega⟩
    obtain ⟨b, hb, hl⟩ := c_drop s i (by omega)
    simp only [impl_SumMore.l0]
    have e := c_sum_in_impl 8 k (Go.bits .xor .u32 x ((b.toNat : Int) % 4294967296)) i s (by omega)
    have z : (8 : Int) - ((8 : Nat) : Int) = 0 := by omega
    rw [z] at e
    have w : Aside0 (wrap64 ((i : Int) + 1) = ((i + 1 : Nat) : Int)) := ⟨by rw [c_wrap (by omega) (by omega)]; omega⟩
    rw [w.out] at e
    rw [if_pos (by omega), if_pos (by omega), hb, e, ih k (i + 1) _ (by omega) (by omega) (by omega), hl]
    rfl
theorem c_SumMore_impl (s : ByteArray) (hs : s.size ≤ 1048576) (k : Nat) (hk : 10 * s.size < k) (x : Int) : impl_SumMore.f k x s = some (c_crc s.data.toList x) := by
  unfold impl_SumMore.f
  have := c_sum_impl s hs s.size k 0 x (by omega) (by omega) hk
  simpa using this

/-! ### crcrange -/
theorem c_xor_nat (a b : Nat) (ha : a < 4294967296) (hb : b < 4294967296) : Go.bits .xor .u32 (a : Int) (b : Int) = ((a ^^^ b : Nat) : Int) := by
  have ha' : a % 2 ^ 32 = a := Nat.mod_eq_of_lt (by omega)
  have hb' : b % 2 ^ 32 = b := Nat.mod_eq_of_lt (by omega)
  have hx : a ^^^ b < 2 ^ 32 := Nat.xor_lt_two_pow (by omega) (by omega)
  have e : (BitVec.ofNat 32 a ^^^ BitVec.ofNat 32 b).toNat = a ^^^ b := by rw [BitVec.toNat_xor, BitVec.toNat_ofNat, BitVec.toNat_ofNat, ha', hb']
  simp only [Go.bits, BitVec.ofInt_natCast, IntKind.wrap_u32]
  have e2 : ((BitVec.ofNat IntKind.u32.bits a ^^^ BitVec.ofNat IntKind.u32.bits b).toNat : Int) = ((a ^^^ b : Nat) : Int) := by exact_mod_cast e
  rw [e2]
  omega
theorem c_xor_range {x : Int} {b : Nat} (h0 : 0 ≤ x) (h1 : x < 4294967296) (hb : b < 4294967296) : 0 ≤ Go.bits .xor .u32 x (b : Int) ∧ Go.bits .xor .u32 x (b : Int) < 4294967296 := by
  obtain ⟨a, rfl⟩ := Int.eq_ofNat_of_zero_le h0
  rw [c_xor_nat a b (by omega) hb]
  have hx : a ^^^ b < 2 ^ 32 := Nat.xor_lt_two_pow (by omega) (by omega)
  omega
theorem c_odd_range {x : Int} (h0 : 0 ≤ x) (h1 : x < 4294967296) : 0 ≤ c_odd x ∧ c_odd x < 4294967296 := by
  unfold c_odd
  rw [Int.tdiv_eq_ediv_of_nonneg h0]
  have h2 : 0 ≤ x / 2 % 4294967296 := by omega
  have h3 : x / 2 % 4294967296 < 4294967296 := by omega
  split
  · exact c_xor_range (b := 3558460437) h2 h3 (by omega)
  · exact ⟨h2, h3⟩
theorem c_iter_range (n : Nat) : ∀ {x : Int}, 0 ≤ x → x < 4294967296 → 0 ≤ c_iter n x ∧ c_iter n x < 4294967296 := by
  induction n with
  | zero => intro x h0 h1; exact ⟨h0, h1⟩
  | succ n ih =>
    intro x h0 h1
    obtain ⟨h2, h3⟩ := c_odd_range h0 h1
    exact ih h2 h3
theorem c_byte_mod (b : UInt8) : (b.toNat : Int) % 4294967296 = ((b.toNat : Nat) : Int) := by
  have := b.toNat_lt
  omega
theorem c_crc_range (l : List UInt8) : ∀ {x : Int}, 0 ≤ x → x < 4294967296 → 0 ≤ c_crc l x ∧ c_crc l x < 4294967296 := by
  induction l with
  | nil => intro x h0 h1; exact ⟨h0, h1⟩
  | cons b l ih =>
    intro x h0 h1
    have hb := b.toNat_lt
    have hx := c_xor_range (b := b.toNat) h0 h1 (by omega)
    rw [← c_byte_mod] at hx
    obtain ⟨h2, h3⟩ := c_iter_range 8 hx.1 hx.2
    exact ih h2 h3

/-! ### four -/
def c_four (x : Int) : List Int := [(x / 16777216) % 256, (x / 65536) % 256, (x / 256) % 256, x % 256]
theorem c_wrap32 (n : Int) (h0 : 0 ≤ n) (h1 : n < 2 ^ 63) : IntKind.i64.wrap n = n := by rw [IntKind.wrap_i64]; omega
theorem c_and255 {x : Int} (h0 : 0 ≤ x) (h1 : x < 4294967296) : (Go.bits .and .i64 x 255) % 256 = x % 256 := by
  have := bits_mask .i64 63 (by decide) c_wrap32 8 (by decide) x h0 (by omega)
  have e : (2 : Int) ^ 8 - 1 = 255 := rfl
  have e2 : (2 : Int) ^ 8 = 256 := rfl
  rw [e, e2] at this
  rw [this]
  omega

/-! ### crcinj -/
theorem c_xorc {a b c : Nat} (h : a ^^^ c = b ^^^ c) : a = b := by
  have h2 : (a ^^^ c) ^^^ c = (b ^^^ c) ^^^ c := by rw [h]
  rwa [Nat.xor_assoc, Nat.xor_assoc, Nat.xor_self, Nat.xor_zero, Nat.xor_zero] at h2
theorem c_xorl {a b c : Nat} (h : a ^^^ b = a ^^^ c) : b = c := by
  rw [Nat.xor_comm a b, Nat.xor_comm a c] at h
  exact c_xorc h
theorem c_top (a : Nat) (h : a < 2147483648) : a.testBit 31 = false := Nat.testBit_lt_two_pow (by omega)
theorem c_odd_nat (x : Nat) (h : x < 4294967296) : c_odd (x : Int) = (((x / 2) ^^^ (if x % 2 = 1 then 3558460437 else 0) : Nat) : Int) := by
  unfold c_odd
  have e : (Int.tdiv (x : Int) 2) % 4294967296 = ((x / 2 : Nat) : Int) := by rw [Int.tdiv_eq_ediv_of_nonneg (by omega)]; omega
  have m : Int.tmod (x : Int) 2 = ((x % 2 : Nat) : Int) := by rw [Int.tmod_eq_emod_of_nonneg (by omega)]; omega
  rw [e, m]
  by_cases hp : x % 2 = 1
  · rw [if_pos (by omega), if_pos hp]
    exact c_xor_nat (x / 2) 3558460437 (by omega) (by omega)
  · rw [if_neg (by omega), if_neg hp, Nat.xor_zero]
theorem c_oddn_inj {x y : Nat} (hx : x < 4294967296) (hy : y < 4294967296) (h : (x / 2) ^^^ (if x % 2 = 1 then 3558460437 else 0) = (y / 2) ^^^ (if y % 2 = 1 then 3558460437 else 0)) : x = y := by
  have t1 := c_top (x / 2) (by omega)
  have t2 := c_top (y / 2) (by omega)
  have tp : (3558460437 : Nat).testBit 31 = true := by decide +kernel
  have hb := congrArg (fun n => Nat.testBit n 31) h
  simp only [Nat.testBit_xor, t1, t2] at hb
  by_cases px : x % 2 = 1
  · by_cases py : y % 2 = 1
    · rw [if_pos px, if_pos py] at h
      have := c_xorc h
      omega
    · rw [if_pos px, if_neg py, tp, Nat.zero_testBit] at hb
      simp at hb
  · by_cases py : y % 2 = 1
    · rw [if_neg px, if_pos py, tp, Nat.zero_testBit] at hb
      simp at hb
    · rw [if_neg px, if_neg py, Nat.xor_zero, Nat.xor_zero] at h
      omega
theorem c_odd_inj {x y : Int} (h0 : 0 ≤ x) (h1 : x < 4294967296) (g0 : 0 ≤ y) (g1 : y < 4294967296) (h : c_odd x = c_odd y) : x = y := by
  obtain ⟨a, rfl⟩ := Int.eq_ofNat_of_zero_le h0
  obtain ⟨b, rfl⟩ := Int.eq_ofNat_of_zero_le g0
  rw [c_odd_nat a (by omega), c_odd_nat b (by omega)] at h
  rw [c_oddn_inj (by omega) (by omega) (Int.ofNat.inj h)]
theorem c_iter_inj (n : Nat) : ∀ {x y : Int}, 0 ≤ x → x < 4294967296 → 0 ≤ y → y < 4294967296 → c_iter n x = c_iter n y → x = y := by
  induction n with
  | zero => intro x y _ _ _ _ h; exact h
  | succ n ih =>
    intro x y h0 h1 g0 g1 h
    have rx := c_odd_range h0 h1
    have ry := c_odd_range g0 g1
    exact c_odd_inj h0 h1 g0 g1 (ih rx.1 rx.2 ry.1 ry.2 h)
def c_stp (x : Int) (b : UInt8) : Int := c_iter 8 (Go.bits .xor .u32 x ((b.toNat : Int) % 4294967296))
theorem c_crc_cons (b : UInt8) (l : List UInt8) (x : Int) : c_crc (b :: l) x = c_crc l (c_stp x b) := by
  unfold c_crc c_stp
  rw [List.foldl_cons]
theorem c_crc_app (a l : List UInt8) (x : Int) : c_crc (a ++ l) x = c_crc l (c_crc a x) := by
  unfold c_crc
  rw [List.foldl_append]
theorem c_stp_range {x : Int} (h0 : 0 ≤ x) (h1 : x < 4294967296) (b : UInt8) : 0 ≤ c_stp x b ∧ c_stp x b < 4294967296 := by
  have hb := b.toNat_lt
  unfold c_stp
  rw [c_byte_mod]
  have := c_xor_range (b := b.toNat) h0 h1 (by omega)
  exact c_iter_range 8 this.1 this.2
theorem c_stp_eq {x y : Int} {b c : UInt8} (h0 : 0 ≤ x) (h1 : x < 4294967296) (g0 : 0 ≤ y) (g1 : y < 4294967296) (h : c_stp x b = c_stp y c) : x.toNat ^^^ b.toNat = y.toNat ^^^ c.toNat := by
  have hb := b.toNat_lt
  have hc := c.toNat_lt
  unfold c_stp at h
  rw [c_byte_mod, c_byte_mod] at h
  have r1 := c_xor_range (b := b.toNat) h0 h1 (by omega)
  have r2 := c_xor_range (b := c.toNat) g0 g1 (by omega)
  generalize hn : 8 = n8 at h
  have e := c_iter_inj n8 r1.1 r1.2 r2.1 r2.2 h
  obtain ⟨a, rfl⟩ := Int.eq_ofNat_of_zero_le h0
  obtain ⟨d, rfl⟩ := Int.eq_ofNat_of_zero_le g0
  rw [c_xor_nat a b.toNat (by omega) (by omega), c_xor_nat d c.toNat (by omega) (by omega)] at e
  exact Int.ofNat.inj e
theorem c_crc_inj (l : List UInt8) : ∀ {x y : Int}, 0 ≤ x → x < 4294967296 → 0 ≤ y → y < 4294967296 → c_crc l x = c_crc l y → x = y := by
  induction l with
  | nil => intro x y _ _ _ _ h; exact h
  | cons b l ih =>
    intro x y h0 h1 g0 g1 h
    rw [c_crc_cons, c_crc_cons] at h
    have rx := c_stp_range h0 h1 b
    have ry := c_stp_range g0 g1 b
    have e := c_stp_eq h0 h1 g0 g1 (ih rx.1 rx.2 ry.1 ry.2 h)
    have := c_xorc e
    omega
theorem c_crc_turn (a r : List UInt8) (b c : UInt8) (hne : b ≠ c) {x : Int} (h0 : 0 ≤ x) (h1 : x < 4294967296) : c_crc (a ++ b :: r) x ≠ c_crc (a ++ c :: r) x := by
  intro h
  rw [c_crc_app, c_crc_app, c_crc_cons, c_crc_cons] at h
  have ra := c_crc_range a h0 h1
  have r1 := c_stp_range ra.1 ra.2 b
  have r2 := c_stp_range ra.1 ra.2 c
  have e := c_stp_eq ra.1 ra.2 ra.1 ra.2 (c_crc_inj r r1.1 r1.2 r2.1 r2.2 h)
  exact hne (UInt8.toNat_inj.1 (c_xorl e))
theorem c_four_inj {x y : Int} (h0 : 0 ≤ x) (h1 : x < 4294967296) (g0 : 0 ≤ y) (g1 : y < 4294967296) (h : (strOfNums (c_four x)).data.toList = (strOfNums (c_four y)).data.toList) : x = y := by
  have e : ∀ z : Int, (strOfNums (c_four z)).data.toList = (c_four z).map fun n => UInt8.ofNat n.toNat := fun z => rfl
  rw [e, e] at h
  unfold c_four at h
  simp only [List.map_cons, List.map_nil, List.cons.injEq, and_true] at h
  obtain ⟨a, b, c, d⟩ := h
  have nat : ∀ {m n : Int}, 0 ≤ m → m < 256 → 0 ≤ n → n < 256 → UInt8.ofNat m.toNat = UInt8.ofNat n.toNat → m = n := by
    intro m n m0 m1 n0 n1 q
    have := congrArg UInt8.toNat q
    rw [UInt8.toNat_ofNat', UInt8.toNat_ofNat'] at this
    omega
  have a' := nat (by omega) (by omega) (by omega) (by omega) a
  have b' := nat (by omega) (by omega) (by omega) (by omega) b
  have c' := nat (by omega) (by omega) (by omega) (by omega) c
  have d' := nat (by omega) (by omega) (by omega) (by omega) d
  omega
theorem c_xor8 (a b : Nat) (ha : a < 256) (hb : b < 256) : Go.bits .xor .u8 (a : Int) (b : Int) = ((a ^^^ b : Nat) : Int) := by
  have ha' : a % 2 ^ 8 = a := Nat.mod_eq_of_lt (by omega)
  have hb' : b % 2 ^ 8 = b := Nat.mod_eq_of_lt (by omega)
  have hx : a ^^^ b < 2 ^ 8 := Nat.xor_lt_two_pow (by omega) (by omega)
  have e : (BitVec.ofNat 8 a ^^^ BitVec.ofNat 8 b).toNat = a ^^^ b := by rw [BitVec.toNat_xor, BitVec.toNat_ofNat, BitVec.toNat_ofNat, ha', hb']
  simp only [Go.bits, BitVec.ofInt_natCast, IntKind.wrap_u8]
  have e2 : ((BitVec.ofNat IntKind.u8.bits a ^^^ BitVec.ofNat IntKind.u8.bits b).toNat : Int) = ((a ^^^ b : Nat) : Int) := by exact_mod_cast e
  rw [e2]
  omega

/-! ### highfirst -/
theorem c_highFirst {x : Int} (h0 : 0 ≤ x) (h1 : x < 4294967296) (k : Nat) : impl_highFirst.f (k + 5) x 4 = some (strOfNums (c_four x)) := by
  unfold impl_highFirst.f
  have w3 : Aside0 (wrap64 (4 - 1) = 3) := ⟨by unfold wrap64; omega⟩
  have w2 : Aside0 (wrap64 (3 - 1) = 2) := ⟨by unfold wrap64; omega⟩
  have w1 : Aside0 (wrap64 (2 - 1) = 1) := ⟨by unfold wrap64; omega⟩
  have w0 : Aside0 (wrap64 (1 - 1) = 0) := ⟨by unfold wrap64; omega⟩
  have wm : Aside0 (wrap64 (0 - 1) = -1) := ⟨by unfold wrap64; omega⟩
  have d1 : x / 256 / 256 = x / 65536 := by omega
  have d2 : x / 65536 / 256 = x / 16777216 := by omega
  rw [if_pos (by decide), if_pos (by decide), w3.out]
  have e : List.replicate (4 : Int).toNat (0 : Int) = [0, 0, 0, 0] := rfl
  rw [e, impl_highFirst.l0, if_pos (by decide), if_pos (by decide), if_pos (by decide), w2.out, c_and255 h0 h1]
  rw [impl_highFirst.l0, if_pos (by decide), if_pos (by decide), if_pos (by simp), w1.out, c_and255 (by omega) (by omega), d1]
  rw [impl_highFirst.l0, if_pos (by decide), if_pos (by decide), if_pos (by simp), w0.out, c_and255 (by omega) (by omega), d2]
  rw [impl_highFirst.l0, if_pos (by decide), if_pos (by decide), if_pos (by simp), wm.out, c_and255 (by omega) (by omega)]
  rw [impl_highFirst.l0, if_neg (by decide)]
  rfl

/-! ### sealed -/
def c_sum (s : ByteArray) : Int := c_crc s.data.toList 4294967295
theorem c_sum_range (s : ByteArray) : 0 ≤ c_sum s ∧ c_sum s < 4294967296 := c_crc_range _ (by omega) (by omega)
theorem c_four_size (x : Int) : (strOfNums (c_four x)).size = 4 := by rw [strOfNums_size]; rfl
theorem c_SumOf_impl (s : ByteArray) (hs : s.size ≤ 1048576) (k : Nat) (hk : 10 * s.size < k) : impl_SumOf.f k s = some (c_sum s) := by
  unfold impl_SumOf.f
  rw [c_SumMore_impl s hs k hk]
  rfl
theorem c_Sealed_impl (s : ByteArray) (hs : s.size ≤ 20000) (k : Nat) (hk : 200000 ≤ k) : impl_Sealed.f (k + 5) s = some (s ++ strOfNums (c_four (c_sum s)), true) := by
  obtain ⟨h0, h1⟩ := c_sum_range s
  unfold impl_Sealed.f
  rw [if_neg (by omega), c_SumOf_impl s (by omega) _ (by omega)]
  simp only [Option.bind_some]
  rw [c_wrap (by omega) (by omega), c_highFirst h0 h1]
  simp only [Option.bind_some]
  rw [if_pos (by rw [c_four_size]; omega)]
theorem c_Sealed_no (s : ByteArray) (hs : 20000 < s.size) (k : Nat) : impl_Sealed.f k s = some ((⟨#[]⟩ : ByteArray), false) := by
  unfold impl_Sealed.f
  rw [if_pos (by omega)]

/-! ### bytes -/
theorem c_toList (s : ByteArray) : s.toList = s.data.toList := ByteArray.toList_eq s
theorem c_extract (s : ByteArray) (a b : Nat) : (s.extract a b).data.toList = (s.data.toList.take b).drop a := by
  simp [ByteArray.data_extract, Array.toList_extract, List.extract_eq_take_drop, List.drop_take]
theorem c_ext {s t : ByteArray} (h : s.data.toList = t.data.toList) : s = t := by
  cases s; cases t; congr; exact Array.toList_inj.1 h

/-! ### sealed_more -/
theorem c_split4 (s : ByteArray) (n : Nat) (h : s.size = n + 4) : (s.extract 0 n).data.toList ++ (s.extract n s.size).data.toList = s.data.toList := by
  rw [c_extract, c_extract, List.drop_zero]
  have : s.data.toList.take s.size = s.data.toList := List.take_of_length_le (by rw [data_length]; omega)
  rw [this, List.take_append_drop]
theorem c_extract_size (s : ByteArray) (n : Nat) (h : n ≤ s.size) : (s.extract 0 n).size = n := by
  have := congrArg List.length (c_extract s 0 n)
  rw [data_length, List.drop_zero, List.length_take, data_length] at this
  omega
theorem c_appList (a b : ByteArray) : (a ++ b).data.toList = a.data.toList ++ b.data.toList := by simp
def c_unsealed (s : ByteArray) : ByteArray × Bool :=
  if s.size < 4 then ((⟨#[]⟩ : ByteArray), false) else if s.size - 4 > 20000 then ((⟨#[]⟩ : ByteArray), false)
  else if (s.extract (s.size - 4) s.size).data.toList = (strOfNums (c_four (c_sum (s.extract 0 (s.size - 4))))).data.toList then (s.extract 0 (s.size - 4), true) else ((⟨#[]⟩ : ByteArray), false)
theorem c_Unsealed_impl (s : ByteArray) (hs : s.size ≤ 1048576) (k : Nat) (hk : 200000 ≤ k) : impl_Unsealed.f (k + 5) s = some (c_unsealed s) := by
  unfold impl_Unsealed.f c_unsealed
  rw [c_wrap (by omega) (by omega)]
  by_cases h1 : s.size < 4
  · rw [if_pos (by omega), if_pos h1]
  · have e : (s.size : Int) - 4 = ((s.size - 4 : Nat) : Int) := by omega
    rw [if_neg (by omega), if_neg h1, if_pos (by omega), if_pos (by omega), e, Int.toNat_natCast]
    have hz := c_extract_size s (s.size - 4) (by omega)
    by_cases h2 : s.size - 4 > 20000
    · rw [if_pos h2, c_Sealed_no _ (by omega)]
      simp
    · rw [if_neg h2, c_Sealed_impl _ (by omega) k hk]
      simp only [Option.bind_some, if_true]
      have hiff : (s.extract 0 (s.size - 4) ++ strOfNums (c_four (c_sum (s.extract 0 (s.size - 4))))).toList = s.toList ↔ (s.extract (s.size - 4) s.size).data.toList = (strOfNums (c_four (c_sum (s.extract 0 (s.size - 4))))).data.toList := by
        rw [c_toList, c_toList, c_appList]
        have := c_split4 s (s.size - 4) (by omega)
        constructor
        · intro h
          rw [← this] at h
          exact (List.append_cancel_left h).symm
        · intro h
          rw [← h, this]
      by_cases h3 : (s.extract (s.size - 4) s.size).data.toList = (strOfNums (c_four (c_sum (s.extract 0 (s.size - 4))))).data.toList
      · rw [if_pos (hiff.2 h3), if_pos h3]
      · rw [if_neg (mt hiff.1 h3), if_neg h3]

/-! ### ints -/
theorem c_rd {l : List Int} {i : Nat} (h : i < l.length) : rd l (i : Int) = l[i]'h := by
  unfold rd
  simp [h]
theorem c_rd_app (pre : List Int) (a : Int) (l : List Int) : rd (pre ++ a :: l) (pre.length : Int) = a := by
  unfold rd
  simp
theorem c_inc {i n : Nat} (h : i < n) (hn : n ≤ 9223372036854775807) : wrap64 ((i : Int) + 1) = ((i + 1 : Nat) : Int) := by rw [c_wrap (by omega) (by omega)]; omega

/-! ### draw -/
structure CSt (l : List Int) (i : Int) : Prop where
  lo : 0 ≤ i
  hi : i ≤ l.length
  sz : l.length ≤ 4611686018427387904
theorem c_and_le (x : Int) : 0 ≤ Go.bits .and .i64 x 255 ∧ Go.bits .and .i64 x 255 ≤ 255 := by
  have h : (BitVec.ofInt 64 x &&& BitVec.ofInt 64 255).toNat ≤ 255 := by
    rw [BitVec.toNat_and]
    exact Nat.le_trans Nat.and_le_right (by decide)
  have e : Go.bits .and .i64 x 255 = IntKind.i64.wrap ((BitVec.ofInt 64 x &&& BitVec.ofInt 64 255).toNat : Int) := rfl
  rw [e, IntKind.wrap_i64]
  omega
theorem c_new (l : List Int) (hl : l.length ≤ 4611686018427387904) (d : Nat) : ∀ (h : Int) (i : Nat), 4000 - i = d → i ≤ l.length → ∃ h', ∀ k, d < k → spec_l01New.l0 k l h i = some (l, 0, h') := by
  induction d with
  | zero =>
    intro h i hd hi
    refine ⟨h, fun k hk => ?_⟩
    obtain ⟨k, rfl⟩ := c_up (k := k) (by omega)
    rw [spec_l01New.l0]
    by_cases h1 : (i : Int) < (l.length : Int)
    · rw [if_pos h1, if_neg (by omega)]
    · rw [if_neg h1]
  | succ d ih =>
    intro h i hd hi
    by_cases h1 : i < l.length
    · obtain ⟨h', hh⟩ := ih (Go.bits .and .i64 (wrap64 ((wrap64 ((wrap64 (h * 131)) + (wrap64 (rd l i)))) + 7)) 1073741823) (i + 1) (by omega) (by omega)
      refine ⟨h', fun k hk => ?_⟩
      obtain ⟨k, rfl⟩ := c_up (k := k) (by omega)
      rw [spec_l01New.l0, if_pos (by omega), if_pos (by omega), if_pos (by omega), c_inc (n := l.length) (by omega) (by omega)]
      exact hh k (by omega)
    · refine ⟨h, fun k hk => ?_⟩
      obtain ⟨k, rfl⟩ := c_up (k := k) (by omega)
      rw [spec_l01New.l0, if_neg (by omega)]
theorem c_l01New (l : List Int) (hl : l.length ≤ 4611686018427387904) : ∃ h, ∀ k, 4000 < k → spec_l01New.f k l = some (l, 0, h) := by
  obtain ⟨h, hh⟩ := c_new l hl 4000 (wrap64 (37101 + (l.length : Int))) 0 rfl (by omega)
  exact ⟨h, fun k hk => by unfold spec_l01New.f; exact hh k hk⟩
theorem c_byte {l : List Int} {i : Int} (h : Int) (s : CSt l i) : ∃ x i' h', spec_l01Byte.f l i h = some (x, i', h') ∧ 0 ≤ x ∧ x ≤ 255 ∧ CSt l i' := by
  unfold spec_l01Byte.f
  have hlo := s.lo
  have hhi := s.hi
  have hsz := s.sz
  by_cases h1 : i < (l.length : Int)
  · rw [if_pos h1, if_pos hlo]
    refine ⟨_, _, _, rfl, (c_and_le _).1, (c_and_le _).2, ?_⟩
    rw [c_wrap (n := i + 1) (by omega) (by omega)]
    exact ⟨by omega, by omega, hsz⟩
  · rw [if_neg h1]
    exact ⟨_, _, _, rfl, (c_and_le _).1, (c_and_le _).2, s⟩
theorem c_below {l : List Int} {i : Int} (h : Int) (s : CSt l i) (n : Int) : ∃ x i' h', spec_l01Below.f l i h n = some (x, i', h') ∧ 0 ≤ x ∧ (0 < n → x < n) ∧ (n ≤ 0 → x = 0) ∧ CSt l i' := by
  unfold spec_l01Below.f
  by_cases h0 : n ≤ 0
  · rw [if_pos h0]
    exact ⟨_, _, _, rfl, by omega, by omega, fun _ => rfl, s⟩
  · rw [if_neg h0]
    by_cases h1 : n ≤ 256
    · obtain ⟨x, i', h', e, hx0, hx1, s'⟩ := c_byte h s
      rw [if_pos h1, e]
      simp only [Option.bind_some]
      rw [if_neg (by omega), Int.tmod_eq_emod_of_nonneg hx0]
      exact ⟨_, _, _, rfl, Int.emod_nonneg _ (by omega), fun _ => Int.emod_lt_of_pos _ (by omega), by omega, s'⟩
    · obtain ⟨x, i1, h1', e1, hx0, hx1, s1⟩ := c_byte h s
      obtain ⟨y, i2, h2', e2, hy0, hy1, s2⟩ := c_byte h1' s1
      obtain ⟨z, i3, h3', e3, hz0, hz1, s3⟩ := c_byte h2' s2
      obtain ⟨w, i4, h4', e4, hw0, hw1, s4⟩ := c_byte h3' s3
      rw [if_neg h1, e1]
      simp only [Option.bind_some]
      rw [e2]
      simp only [Option.bind_some]
      rw [e3]
      simp only [Option.bind_some]
      rw [e4]
      simp only [Option.bind_some]
      rw [if_neg (by omega), c_wrap (n := x * 16777216) (by omega) (by omega), c_wrap (n := y * 65536) (by omega) (by omega), c_wrap (n := z * 256) (by omega) (by omega), c_wrap (n := x * 16777216 + y * 65536) (by omega) (by omega), c_wrap (n := x * 16777216 + y * 65536 + z * 256) (by omega) (by omega), c_wrap (by omega) (by omega), Int.tmod_eq_emod_of_nonneg (by omega)]
      exact ⟨_, _, _, rfl, Int.emod_nonneg _ (by omega), fun _ => Int.emod_lt_of_pos _ (by omega), by omega, s4⟩

/-! ### textdraw -/
theorem c_textl {l : List Int} (n : Int) (hn : n ≤ 5000) (d : Nat) : ∀ {i : Int} (h : Int) (s : CSt l i) (j : Nat) (acc : List Int), (n - (j : Int)).toNat = d → acc.length ≤ j → j ≤ 5000 → ∃ (t : ByteArray) (i' h' : Int), CSt l i' ∧ t.size ≤ acc.length + d ∧ ∀ k, d < k → spec_l01Text.l0 k n acc j l i h = some (t, i', h') := by
  induction d with
  | zero =>
    intro i h s j acc hd ha hj
    refine ⟨strOfNums acc, i, h, s, by rw [strOfNums_size]; omega, fun k hk => ?_⟩
    obtain ⟨k, rfl⟩ := c_up (k := k) (by omega)
    rw [spec_l01Text.l0, if_neg (by omega)]
  | succ d ih =>
    intro i h s j acc hd ha hj
    obtain ⟨x, i1, h1, e1, _, _, s1⟩ := c_byte h s
    obtain ⟨t, i', h', s', ht, q⟩ := ih h1 s1 (j + 1) (acc ++ [x % 256]) (by omega) (by simp; omega) (by omega)
    refine ⟨t, i', h', s', by rw [List.length_append, List.length_singleton] at ht; omega, fun k hk => ?_⟩
    obtain ⟨k, rfl⟩ := c_up (k := k) (by omega)
    rw [spec_l01Text.l0, if_pos (by omega), e1]
    simp only [Option.bind_some]
    rw [if_pos (by omega), c_inc (n := 9223372036854775807) (by omega) (by omega)]
    exact q k (by omega)
theorem c_text {l : List Int} {i : Int} (h : Int) (s : CSt l i) (n : Int) (hn : n ≤ 5000) : ∃ (t : ByteArray) (i' h' : Int), CSt l i' ∧ t.size ≤ n.toNat ∧ ∀ k, 5002 < k → spec_l01Text.f k l i h n = some (t, i', h') := by
  obtain ⟨t, i', h', s', ht, q⟩ := c_textl n hn n.toNat h s 0 [] (by omega) (by simp) (by omega)
  refine ⟨t, i', h', s', by simpa using ht, fun k hk => ?_⟩
  obtain ⟨k, rfl⟩ := c_up (k := k) (by omega)
  unfold spec_l01Text.f
  rw [if_neg (by omega), spec_l01Text.j0]
  exact q k (by omega)

/-! ### places -/
theorem c_places_l {l : List Int} (d : Nat) : ∀ (acc : List Int) (j : Nat) (i h : Int), 12 - j = d → j ≤ 12 → acc.length = j → (∀ x ∈ acc, 0 ≤ x ∧ x < 10000) → CSt l i → ∃ p : List Int, p.length = 12 ∧ (∀ x ∈ p, 0 ≤ x ∧ x < 10000) ∧ ∀ k, d < k → spec_DrawPlaces.l0 k acc j l i h = some p := by
  induction d with
  | zero =>
    intro acc j i h hd hj hl hacc s
    refine ⟨acc, by omega, hacc, fun k hk => ?_⟩
    obtain ⟨k, rfl⟩ := c_up (k := k) (by omega)
    rw [spec_DrawPlaces.l0, if_neg (by omega)]
  | succ d ih =>
    intro acc j i h hd hj hl hacc s
    obtain ⟨x, i', h', e, hx0, hx1, _, s'⟩ := c_below h s 10000
    obtain ⟨p, hp1, hp2, hp3⟩ := ih (acc ++ [x]) (j + 1) i' h' (by omega) (by omega) (by rw [List.length_append, List.length_singleton]; omega) (fun y hy => by
      rcases List.mem_append.1 hy with hy | hy
      · exact hacc y hy
      · rw [List.mem_singleton] at hy
        subst hy
        exact ⟨hx0, hx1 (by omega)⟩) s'
    refine ⟨p, hp1, hp2, fun k hk => ?_⟩
    obtain ⟨k, rfl⟩ := c_up (k := k) (by omega)
    rw [spec_DrawPlaces.l0, if_pos (by omega), e]
    simp only [Option.bind_some]
    rw [if_pos (by omega), c_inc (n := 12) (by omega) (by omega)]
    exact hp3 k (by omega)
theorem c_DrawPlaces (l : List Int) (hl : l.length ≤ 4611686018427387904) : ∃ p : List Int, p.length = 12 ∧ (∀ j : Nat, j < 12 → 0 ≤ rd p j ∧ rd p j < 10000) ∧ ∀ k, 4000 < k → spec_DrawPlaces.f k l = some p := by
  obtain ⟨h, hh⟩ := c_l01New l hl
  obtain ⟨x, i', h', e, hx0, hx1, s'⟩ := c_byte (l := l) (i := 0) h ⟨by omega, by omega, hl⟩
  obtain ⟨p, hp1, hp2, hp3⟩ := c_places_l 12 [] 0 i' h' rfl (by omega) rfl (by simp) s'
  refine ⟨p, hp1, fun j hj => ?_, fun k hk => ?_⟩
  · rw [c_rd (by omega)]
    exact hp2 _ (List.getElem_mem _)
  · unfold spec_DrawPlaces.f
    rw [hh k hk]
    simp only [Option.bind_some]
    rw [e]
    simp only [Option.bind_some]
    exact hp3 k (by omega)
theorem c_big (l : List Int) : laws_big.f l = some (decide ((l.length : Int) > 1048576)) := rfl

/-! ### the law -/
theorem c_DrawSumOf (l : List Int) (hl : l.length ≤ 4611686018427387904) : ∃ s : ByteArray, s.size ≤ 39 ∧ ∀ k, 6000 < k → spec_DrawSumOf.f k l = some s := by
  obtain ⟨h0, e0⟩ := c_l01New l hl
  obtain ⟨n, i1, h1, e1, n0, n1, _, s1⟩ := c_below h0 (⟨by omega, by omega, hl⟩ : CSt l 0) 40
  have n2 := n1 (by omega)
  obtain ⟨t, i2, h2, _, ht, q⟩ := c_text h1 s1 n (by omega)
  refine ⟨t, by omega, fun k hk => ?_⟩
  unfold spec_DrawSumOf.f
  rw [e0 k (by omega), Option.bind_some]
  dsimp only
  rw [e1, Option.bind_some]
  dsimp only
  rw [q k (by omega)]
  rfl
theorem c_sealed_back (s : ByteArray) (hs : s.size ≤ 39) : c_unsealed (s ++ strOfNums (c_four (c_sum s))) = (s, true) := by
  have hz : (s ++ strOfNums (c_four (c_sum s))).size = s.size + 4 := by rw [ByteArray.size_append, c_four_size]
  have hd := c_appList s (strOfNums (c_four (c_sum s)))
  have hl : s.data.toList.length = s.size := data_length s
  have e1 : (s ++ strOfNums (c_four (c_sum s))).extract 0 s.size = s := by
    apply c_ext
    rw [c_extract, hd, List.take_append_of_le_length (by omega), List.drop_zero, List.take_of_length_le (by omega)]
  have e2 : ((s ++ strOfNums (c_four (c_sum s))).extract s.size (s.size + 4)).data.toList = (strOfNums (c_four (c_sum s))).data.toList := by
    have h4 : (strOfNums (c_four (c_sum s))).data.toList.length = 4 := rfl
    rw [c_extract, hd, List.take_of_length_le (by rw [List.length_append, h4]; omega), ← hl, List.drop_left]
  unfold c_unsealed
  rw [hz, if_neg (by omega), Nat.add_sub_cancel, if_neg (by omega), e1, e2, if_pos rfl]
def c_turn (T : ByteArray) (i : Nat) (b : UInt8) : ByteArray := ⟨(T.data.toList.set i b).toArray⟩
theorem c_turn_data (T : ByteArray) (i : Nat) (b : UInt8) : (c_turn T i b).data.toList = T.data.toList.set i b := by simp [c_turn]
theorem c_turn_no (s : ByteArray) (hs : s.size ≤ 39) (i : Nat) (hi : i < s.size + 4) (b : UInt8) (hb : (s ++ strOfNums (c_four (c_sum s))).data.toList[i]? ≠ some b) : (c_unsealed (c_turn (s ++ strOfNums (c_four (c_sum s))) i b)).2 = false := by
  have hz : (c_turn (s ++ strOfNums (c_four (c_sum s))) i b).size = s.size + 4 := by rw [← data_length, c_turn_data, List.length_set, data_length, ByteArray.size_append, c_four_size]
  have hd := c_appList s (strOfNums (c_four (c_sum s)))
  have hl : s.data.toList.length = s.size := data_length s
  have h4 : (strOfNums (c_four (c_sum s))).data.toList.length = 4 := rfl
  have hr := c_sum_range s
  unfold c_unsealed
  rw [hz, if_neg (by omega), Nat.add_sub_cancel, if_neg (by omega), if_neg]
  intro h
  rw [c_extract, c_turn_data, List.take_of_length_le (by rw [List.length_set, hd, List.length_append, h4]; omega), hd] at h
  rw [hd] at hb
  have hfirst : ((c_turn (s ++ strOfNums (c_four (c_sum s))) i b).extract 0 s.size).data.toList = ((s.data.toList ++ (strOfNums (c_four (c_sum s))).data.toList).set i b).take s.size := by
    rw [c_extract, c_turn_data, List.drop_zero, hd]
  have hr2 := c_sum_range ((c_turn (s ++ strOfNums (c_four (c_sum s))) i b).extract 0 s.size)
  by_cases hc : i < s.size
  · rw [List.set_append_left _ _ (by omega)] at h hfirst
    have hls : (s.data.toList.set i b).length = s.size := by rw [List.length_set, hl]
    have hdl : (s.data.toList.set i b ++ (strOfNums (c_four (c_sum s))).data.toList).drop s.size = (strOfNums (c_four (c_sum s))).data.toList := by rw [← hls, List.drop_left]
    have htl : (s.data.toList.set i b ++ (strOfNums (c_four (c_sum s))).data.toList).take s.size = s.data.toList.set i b := by rw [← hls, List.take_left]
    rw [hdl] at h
    rw [htl] at hfirst
    have e := c_four_inj hr.1 hr.2 hr2.1 hr2.2 h
    replace e : c_crc s.data.toList 4294967295 = c_crc (s.data.toList.set i b) 4294967295 := by
      rw [← hfirst]
      exact e
    have hg : s.data.toList[i]? = some (s.data.toList[i]'(by omega)) := List.getElem?_eq_getElem _
    rw [List.getElem?_append_left (by omega), hg] at hb
    have sp := List.take_append_drop i s.data.toList
    rw [List.drop_eq_getElem_cons (by omega)] at sp
    have ss : s.data.toList.set i b = s.data.toList.take i ++ b :: s.data.toList.drop (i + 1) := by
      rw [List.set_eq_take_append_cons_drop, if_pos (by omega)]
    rw [ss] at e
    refine c_crc_turn (s.data.toList.take i) (s.data.toList.drop (i + 1)) (s.data.toList[i]'(by omega)) b (fun q => hb (by rw [q])) (by omega) (by omega) ?_ (x := 4294967295)
    rw [sp]
    exact e
  · rw [List.set_append_right _ _ (by omega), hl] at h hfirst
    have hlt : (s.data.toList ++ (strOfNums (c_four (c_sum s))).data.toList.set (i - s.size) b).take s.size = s.data.toList := by
      rw [← hl, List.take_left]
    rw [hlt] at hfirst
    have hsame : (c_turn (s ++ strOfNums (c_four (c_sum s))) i b).extract 0 s.size = s := c_ext hfirst
    rw [hsame] at h
    have hdl : (s.data.toList ++ (strOfNums (c_four (c_sum s))).data.toList.set (i - s.size) b).drop s.size = (strOfNums (c_four (c_sum s))).data.toList.set (i - s.size) b := by
      rw [← hl, List.drop_left]
    rw [hdl] at h
    apply hb
    rw [List.getElem?_append_right (by omega), hl, ← h, List.getElem?_set_self (by rw [h4]; omega)]
theorem FnTurned : laws_FnTurned.Pure := by
  intro l hl _ _
  unfold maxLen at hl
  by_cases hbg : (l.length : Int) > 1048576
  · refine ⟨0, ?_⟩
    unfold laws_FnTurned.f
    rw [c_big, Option.bind_some, if_pos (decide_eq_true hbg)]
  · obtain ⟨s, hs, es⟩ := c_DrawSumOf l (by omega)
    obtain ⟨p, hp, hr, ep⟩ := c_DrawPlaces l (by omega)
    have h0 : 0 ≤ rd p 0 ∧ rd p 0 < 10000 := hr 0 (by omega)
    have h1 : 0 ≤ rd p 1 ∧ rd p 1 < 10000 := hr 1 (by omega)
    have hz : (s ++ strOfNums (c_four (c_sum s))).size = s.size + 4 := by rw [ByteArray.size_append, c_four_size]
    have seal_ : ∀ k, 200005 ≤ k → impl_Sealed.f k s = some (s ++ strOfNums (c_four (c_sum s)), true) := by
      intro k hk
      obtain ⟨k, rfl⟩ : ∃ m, k = m + 5 := ⟨k - 5, by omega⟩
      exact c_Sealed_impl s (by omega) k (by omega)
    have un : ∀ k (t : ByteArray), 200005 ≤ k → t.size ≤ 100 → impl_Unsealed.f k t = some (c_unsealed t) := by
      intro k t hk ht
      obtain ⟨k, rfl⟩ : ∃ m, k = m + 5 := ⟨k - 5, by omega⟩
      exact c_Unsealed_impl t (by omega) k (by omega)
    have hback := c_sealed_back s hs
    have hno := c_turn_no s hs
    refine ⟨300000, ?_⟩
    unfold laws_FnTurned.f
    rw [c_big, Option.bind_some, if_neg (by rw [decide_eq_true_iff]; exact hbg), es _ (by omega), Option.bind_some, ep _ (by omega), Option.bind_some, seal_ _ (by omega), Option.bind_some]
    dsimp only
    rw [un _ _ (by omega) (by omega), hback, Option.bind_some]
    have hT : (s ++ strOfNums (c_four (c_sum s))).data.toList.length = s.size + 4 := by rw [data_length, hz]
    generalize s ++ strOfNums (c_four (c_sum s)) = T at hz hno hT
    dsimp only
    have hne : (((T.size : Nat) : Int) != wrap64 ((s.size : Int) + 4)) = false := by
      rw [c_wrap (by omega) (by omega)]
      exact bne_eq_false_iff_eq.2 (by omega)
    rw [if_pos rfl, if_pos rfl, if_pos rfl, hne, laws_FnTurned.j0, if_neg (by decide), if_pos (by omega), if_pos (by omega), Option.bind_some]
    have hY : (T.data.toList.map fun b_ => (b_.toNat : Int)).length = s.size + 4 := by rw [List.length_map, hT]
    have hi0 : 0 ≤ Int.tmod (rd p 0) ((s.size + 4 : Nat) : Int) := by rw [Int.tmod_eq_emod_of_nonneg h0.1]; exact Int.emod_nonneg _ (by omega)
    have hi1 : Int.tmod (rd p 0) ((s.size + 4 : Nat) : Int) < ((s.size + 4 : Nat) : Int) := by rw [Int.tmod_eq_emod_of_nonneg h0.1]; exact Int.emod_lt_of_pos _ (by omega)
    rw [hY]
    rw [if_pos (by omega), if_neg (by omega)]
    obtain ⟨i, hi⟩ := Int.eq_ofNat_of_zero_le hi0
    rw [hi] at hi1 ⊢
    rw [if_pos (by omega), if_pos hi1, if_pos (by omega)]
    have hi2 : i < s.size + 4 := by omega
    have hc0 : wrap64 (1 + Int.tmod (rd p 1) 255) % 256 = ((1 + (rd p 1).toNat % 255 : Nat) : Int) := by
      rw [Int.tmod_eq_emod_of_nonneg h1.1, c_wrap (by omega) (by omega)]
      omega
    have hg : T.data.toList[i]? = some (T.data.toList[i]'(by omega)) := List.getElem?_eq_getElem _
    have hrd : rd (T.data.toList.map fun b_ => (b_.toNat : Int)) ((i : Nat) : Int) = ((T.data.toList[i]'(by omega)).toNat : Int) := by
      unfold rd
      rw [Int.toNat_natCast, List.getD_eq_getElem?_getD, List.getElem?_map, hg]
      rfl
    have hby := (T.data.toList[i]'(by omega)).toNat_lt
    have hm : (rd p 1).toNat % 255 < 255 := Nat.mod_lt _ (by omega)
    rw [hrd, hc0, c_xor8 _ _ (by omega) (by omega), Int.toNat_natCast]
    have hx : (T.data.toList[i]'(by omega)).toNat ^^^ (1 + (rd p 1).toNat % 255) < 2 ^ 8 := Nat.xor_lt_two_pow (by omega) (by omega)
    have hturn : strOfNums ((T.data.toList.map fun b_ => (b_.toNat : Int)).set i (((T.data.toList[i]'(by omega)).toNat ^^^ (1 + (rd p 1).toNat % 255) : Nat) : Int)) = c_turn T i (UInt8.ofNat ((T.data.toList[i]'(by omega)).toNat ^^^ (1 + (rd p 1).toNat % 255))) := by
      apply c_ext
      rw [c_turn_data]
      show ((T.data.toList.map fun b_ => (b_.toNat : Int)).set i _).map (fun n => UInt8.ofNat n.toNat) = _
      rw [List.map_set, List.map_map, Int.toNat_natCast]
      congr 1
      conv => rhs; rw [← List.map_id T.data.toList]
      apply List.map_congr_left
      intro b _
      simp
    rw [hturn]
    have hbad := hno i hi2 (UInt8.ofNat ((T.data.toList[i]'(by omega)).toNat ^^^ (1 + (rd p 1).toNat % 255))) (by
      rw [hg]
      intro q
      have q2 := congrArg UInt8.toNat (Option.some.inj q)
      rw [UInt8.toNat_ofNat', Nat.mod_eq_of_lt hx] at q2
      have q3 : (T.data.toList[i]'(by omega)).toNat ^^^ 0 = (T.data.toList[i]'(by omega)).toNat ^^^ (1 + (rd p 1).toNat % 255) := by rw [Nat.xor_zero]; exact q2
      have := c_xorl q3
      omega)
    generalize c_turn T i (UInt8.ofNat ((T.data.toList[i]'(by omega)).toNat ^^^ (1 + (rd p 1).toNat % 255))) = U at hbad hturn
    have hU : U.size ≤ 100 := by rw [← hturn, strOfNums_size, List.length_set, hY]; omega
    have e120 : (⟨#[120]⟩ : ByteArray).size = 1 := rfl
    rw [un _ _ (by omega) hU, Option.bind_some, hbad, if_neg (by decide), c_SumOf_impl s (by omega) _ (by omega), Option.bind_some, c_SumMore_impl _ (by rw [e120]; omega) _ (by rw [e120]; omega), Option.bind_some, if_pos (by omega), c_SumOf_impl _ (by rw [ByteArray.size_append, e120]; omega) _ (by rw [ByteArray.size_append, e120]; omega), Option.bind_some]
    have : c_sum (s ++ (⟨#[120]⟩ : ByteArray)) = c_crc ((⟨#[120]⟩ : ByteArray).data.toList) (c_sum s) := by
      unfold c_sum
      rw [c_appList, c_crc_app]
    rw [this, beq_self_eq_true]

end Go.Proofs.Ytenhjngddagghaa.Pure
