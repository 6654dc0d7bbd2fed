/- A part of the proof: walks of the functions that the law calls. No condition. -/
import Derived.Test.YtplmddbcnnalkaaEvC
set_option linter.all false
section
/- plain: a map's bits as one number -/
namespace Go.Ev.F07
def tk (x n : Nat) (i : Int) : Bool := decide (0 ≤ i) && decide (i < n) && x.testBit i.toNat
def setB (x i : Nat) (t : Bool) : Nat := if t then x ||| 2 ^ i else x ^^^ (x &&& 2 ^ i)
theorem setB_test (x i : Nat) (t : Bool) (j : Nat) : (setB x i t).testBit j = if i = j then t else x.testBit j := by
  unfold setB
  cases t
  · simp only [Bool.false_eq_true, if_false, Nat.testBit_xor, Nat.testBit_and, Nat.testBit_two_pow]
    by_cases h : i = j
    · simp [h]
    · simp [h]
  · simp only [if_true, Nat.testBit_or, Nat.testBit_two_pow]
    by_cases h : i = j
    · simp [h]
    · simp [h]
theorem setB_lt {x i k : Nat} {t : Bool} (hx : x < 2 ^ k) (hi : i < k) : setB x i t < 2 ^ k := by
  unfold setB
  have h2 : 2 ^ i < 2 ^ k := Nat.pow_lt_pow_right (by omega) hi
  cases t
  · simp only [Bool.false_eq_true, if_false]
    exact Nat.xor_lt_two_pow hx (Nat.and_lt_two_pow x h2)
  · simp only [if_true]
    exact Nat.or_lt_two_pow hx h2
theorem bit_u64 {A k : Nat} (hA : A < 18446744073709551616) (hk : k < 64) :
    (IntKind.u64.wrap ((BitVec.ofInt IntKind.u64.bits (((A : Nat) : Int).fdiv (2 ^ min k IntKind.u64.bits)) &&& BitVec.ofInt IntKind.u64.bits 1).toNat : Int) == 1) = A.testBit k := by
  rw [shr_u64 (by omega)]
  have h1 : A / 2 ^ k < 2 ^ 64 := Nat.lt_of_le_of_lt (Nat.div_le_self _ _) hA
  rw [show (1 : Int) = ((1 : Nat) : Int) from rfl, and_u64 h1 (by decide), Nat.testBit_eq_decide_div_mod_eq, Nat.and_one_is_mod]
  generalize A / 2 ^ k % 2 = z
  by_cases h : z = 1
  · simp [h]
  · have : ¬ ((z : Nat) : Int) = 1 := by omega
    simp [h, this]
theorem lo_test {x j : Nat} (h : j < 64) : (x % 18446744073709551616).testBit j = x.testBit j := by
  have := Nat.testBit_mod_two_pow x 64 j
  simp [h] at this; exact this
theorem hi_test (x j : Nat) : (x / 18446744073709551616).testBit j = x.testBit (64 + j) := by
  rw [Nat.add_comm]; exact Nat.testBit_div_two_pow (n := 64) x j
theorem lo_lt (x : Nat) : x % 18446744073709551616 < 18446744073709551616 := Nat.mod_lt _ (by decide)
theorem hi_lt {x : Nat} (h : x < 2 ^ 128) : x / 18446744073709551616 < 18446744073709551616 := by omega
theorem lo_high {x j : Nat} (h : 64 ≤ j) : (x % 18446744073709551616).testBit j = false := by
  have := Nat.testBit_mod_two_pow x 64 j
  simp at this; rw [this]; simp; omega
/-- Words of a map in which a bit was set. -/
theorem set_lo {x i : Nat} (t : Bool) (h : i < 64) : (setB x i t) % 18446744073709551616 = setB (x % 18446744073709551616) i t ∧ (setB x i t) / 18446744073709551616 = x / 18446744073709551616 := by
  constructor
  · apply Nat.eq_of_testBit_eq
    intro j
    rcases Nat.lt_or_ge j 64 with hj | hj
    · rw [lo_test hj, setB_test, setB_test, lo_test hj]
    · rw [lo_high hj, setB_test, if_neg (by omega), lo_high hj]
  · apply Nat.eq_of_testBit_eq
    intro j
    rw [hi_test, setB_test, if_neg (by omega), hi_test]
theorem set_hi {x i : Nat} (t : Bool) (h : 64 ≤ i) : (setB x i t) % 18446744073709551616 = x % 18446744073709551616 ∧ (setB x i t) / 18446744073709551616 = setB (x / 18446744073709551616) (i - 64) t := by
  constructor
  · apply Nat.eq_of_testBit_eq
    intro j
    rcases Nat.lt_or_ge j 64 with hj | hj
    · rw [lo_test hj, setB_test, if_neg (by omega), lo_test hj]
    · rw [lo_high hj, lo_high hj]
  · apply Nat.eq_of_testBit_eq
    intro j
    rw [hi_test, setB_test, setB_test, hi_test]
    by_cases hj : i = 64 + j
    · rw [if_pos hj, if_pos (by omega)]
    · rw [if_neg hj, if_neg (by omega)]
theorem w_set {A k : Nat} (hA : A < 18446744073709551616) (hk : k < 64) :
    IntKind.u64.wrap ((BitVec.ofInt IntKind.u64.bits ((A : Nat) : Int) ||| BitVec.ofInt IntKind.u64.bits (IntKind.u64.wrap (1 * 2 ^ min k IntKind.u64.bits))).toNat : Int) = ((setB A k true : Nat) : Int) := by
  rw [shl1_u64 hk, or_u64 hA (Nat.pow_lt_pow_right (by omega) hk)]; rfl
theorem w_clr {A k : Nat} (hA : A < 18446744073709551616) (hk : k < 64) :
    IntKind.u64.wrap ((BitVec.ofInt IntKind.u64.bits ((A : Nat) : Int) &&& ~~~ BitVec.ofInt IntKind.u64.bits (IntKind.u64.wrap (1 * 2 ^ min k IntKind.u64.bits))).toNat : Int) = ((setB A k false : Nat) : Int) := by
  rw [shl1_u64 hk, andNot_u64 hA (Nat.pow_lt_pow_right (by omega) hk)]; rfl
end Go.Ev.F07
end
section
/- plain: counting a word's bits by halves -/
namespace Go.Ev.F07
def pc (A : Nat) : Nat := (List.range 64).countP fun i => A.testBit i
/-- masks of so many bytes -/
def mk (m : Nat) : Nat → Nat
  | 0 => 0
  | k + 1 => m + 256 * mk m k
theorem and_split (a b A B : Nat) (ha : a < 256) (hb : b < 256) : (a + 256 * A) &&& (b + 256 * B) = (a &&& b) + 256 * (A &&& B) := by
  have hab : a &&& b < 256 := Nat.and_lt_two_pow (n := 8) a hb
  apply Nat.eq_of_testBit_eq
  intro j
  have t : ∀ x X : Nat, x < 256 → (x + 256 * X).testBit j = if j < 8 then x.testBit j else X.testBit (j - 8) := by
    intro x X hx
    have := Nat.testBit_two_pow_mul_add X (i := 8) (b := x) hx j
    rw [Nat.add_comm] at this
    exact this
  rw [Nat.testBit_and, t a A ha, t b B hb, t _ _ hab]
  split <;> rw [Nat.testBit_and]
def s1 (k A : Nat) : Nat := (A / 2 &&& mk 85 k) + (A &&& mk 85 k)
def s2 (k A : Nat) : Nat := (A / 4 &&& mk 51 k) + (A &&& mk 51 k)
def s3 (k A : Nat) : Nat := (A / 16 + A) &&& mk 15 k
def p8 (a : Nat) : Nat := s3 1 (s2 1 (s1 1 a))
theorem b1 : ∀ a, a < 256 → ∀ u, u < 2 → ((a / 2 + 128 * u) &&& 85) + (a &&& 85) = s1 1 a ∧ s1 1 a < 171 := by decide +kernel
theorem b2 : ∀ a, a < 256 → ∀ u, u < 4 → ((a / 4 + 64 * u) &&& 51) + (a &&& 51) = s2 1 a ∧ s2 1 a < 103 ∧ s2 1 a % 16 < 7 := by decide +kernel
theorem b3 : ∀ a, a < 103 → ∀ u, u < 7 → ((a / 16 + 16 * u + a) &&& 15) = s3 1 a := by decide +kernel
theorem st1 (k a A : Nat) (ha : a < 256) : s1 (k + 1) (a + 256 * A) = s1 1 a + 256 * s1 k A := by
  have e : (a + 256 * A) / 2 = (a / 2 + 128 * (A % 2)) + 256 * (A / 2) := by omega
  have h := b1 a ha (A % 2) (by omega)
  unfold s1 at h ⊢
  rw [e, mk, and_split _ _ _ _ (by omega) (by decide), and_split _ _ _ _ ha (by decide)]
  omega
theorem st2 (k a A : Nat) (ha : a < 256) : s2 (k + 1) (a + 256 * A) = s2 1 a + 256 * s2 k A := by
  have e : (a + 256 * A) / 4 = (a / 4 + 64 * (A % 4)) + 256 * (A / 4) := by omega
  have h := b2 a ha (A % 4) (by omega)
  unfold s2 at h ⊢
  rw [e, mk, and_split _ _ _ _ (by omega) (by decide), and_split _ _ _ _ ha (by decide)]
  omega
theorem s2_low (k A : Nat) : s2 k A % 16 < 7 := by
  cases k with
  | zero => simp [s2, mk]
  | succ k =>
    have e : A = A % 256 + 256 * (A / 256) := by omega
    rw [e, st2 k (A % 256) (A / 256) (by omega)]
    have := (b2 (A % 256) (by omega) 0 (by omega)).2.2
    omega
theorem st3 (k a A : Nat) (ha : a < 103) (hA : A % 16 < 7) : s3 (k + 1) (a + 256 * A) = s3 1 a + 256 * s3 k A := by
  have e : (a + 256 * A) / 16 + (a + 256 * A) = (a / 16 + 16 * (A % 16) + a) + 256 * (A / 16 + A) := by omega
  have h := b3 a ha (A % 16) (by omega)
  unfold s3 at h ⊢
  rw [e, mk, and_split _ _ _ _ (by omega) (by decide)]
  omega
def T (k A : Nat) : Nat := s3 k (s2 k (s1 k A))
theorem T_succ (k a A : Nat) (ha : a < 256) : T (k + 1) (a + 256 * A) = p8 a + 256 * T k A := by
  unfold T p8
  have h1 := (b1 a ha 0 (by omega)).2
  have h2 := (b2 (s1 1 a) (by omega) 0 (by omega)).2
  rw [st1 k a A ha, st2 k _ _ (by omega), st3 k _ _ (by omega) (s2_low k _)]
theorem p8_count : ∀ a, a < 256 → p8 a = (List.range 8).countP (fun i => a.testBit i) := by decide +kernel
def s4 (A : Nat) : Nat := A + A / 256
def s5 (A : Nat) : Nat := A + A / 65536
def s6 (A : Nat) : Nat := A + A / 4294967296
theorem p8_le (a : Nat) (h : a < 256) : p8 a ≤ 8 := by rw [p8_count a h]; exact Nat.le_trans List.countP_le_length (by simp)
theorem sum8 (d0 d1 d2 d3 d4 d5 d6 d7 X0 X1 X2 X3 X4 X5 X6 X7 : Nat) (h0 : d0 ≤ 8) (h1 : d1 ≤ 8) (h2 : d2 ≤ 8) (h3 : d3 ≤ 8) (h4 : d4 ≤ 8) (h5 : d5 ≤ 8) (h6 : d6 ≤ 8) (h7 : d7 ≤ 8)
    (k0 : X0 = d0 + 256 * X1) (k1 : X1 = d1 + 256 * X2) (k2 : X2 = d2 + 256 * X3) (k3 : X3 = d3 + 256 * X4) (k4 : X4 = d4 + 256 * X5) (k5 : X5 = d5 + 256 * X6) (k6 : X6 = d6 + 256 * X7) (k7 : X7 = d7) :
    s6 (s5 (s4 X0)) % 128 = d0 + d1 + d2 + d3 + d4 + d5 + d6 + d7 := by
  have q0 : X0 / 256 = X1 := by clear k1 k2 k3 k4 k5 k6 k7; omega
  obtain ⟨Y0, y0⟩ : ∃ Y, Y = X0 + X1 := ⟨_, rfl⟩
  obtain ⟨Y1, y1⟩ : ∃ Y, Y = X1 + X2 := ⟨_, rfl⟩
  obtain ⟨Y2, y2⟩ : ∃ Y, Y = X2 + X3 := ⟨_, rfl⟩
  obtain ⟨Y3, y3⟩ : ∃ Y, Y = X3 + X4 := ⟨_, rfl⟩
  obtain ⟨Y4, y4⟩ : ∃ Y, Y = X4 + X5 := ⟨_, rfl⟩
  obtain ⟨Y5, y5⟩ : ∃ Y, Y = X5 + X6 := ⟨_, rfl⟩
  obtain ⟨Y6, y6⟩ : ∃ Y, Y = X6 + X7 := ⟨_, rfl⟩
  have e4 : s4 X0 = Y0 := by unfold s4; rw [q0, y0]
  have z0 : Y0 = (d0 + d1) + 256 * Y1 := by rw [y0, y1, k0]; conv => { lhs; arg 2; rw [k1] }; omega
  have z1 : Y1 = (d1 + d2) + 256 * Y2 := by rw [y1, y2, k1]; conv => { lhs; arg 2; rw [k2] }; omega
  have z2 : Y2 = (d2 + d3) + 256 * Y3 := by rw [y2, y3, k2]; conv => { lhs; arg 2; rw [k3] }; omega
  have z3 : Y3 = (d3 + d4) + 256 * Y4 := by rw [y3, y4, k3]; conv => { lhs; arg 2; rw [k4] }; omega
  have z4 : Y4 = (d4 + d5) + 256 * Y5 := by rw [y4, y5, k4]; conv => { lhs; arg 2; rw [k5] }; omega
  have z5 : Y5 = (d5 + d6) + 256 * Y6 := by rw [y5, y6, k5]; conv => { lhs; arg 2; rw [k6] }; omega
  have z6 : Y6 = (d6 + d7) + 256 * X7 := by rw [y6, k6, k7]; omega
  clear k0 k1 k2 k3 k4 k5 k6 y0 y1 y2 y3 y4 y5 y6 q0
  rw [e4]
  have w2 : Y0 / 65536 = Y2 := by clear z2 z3 z4 z5 z6; omega
  obtain ⟨Z0, u0⟩ : ∃ Z, Z = Y0 + Y2 := ⟨_, rfl⟩
  obtain ⟨Z1, u1⟩ : ∃ Z, Z = Y1 + Y3 := ⟨_, rfl⟩
  obtain ⟨Z2, u2⟩ : ∃ Z, Z = Y2 + Y4 := ⟨_, rfl⟩
  obtain ⟨Z3, u3⟩ : ∃ Z, Z = Y3 + Y5 := ⟨_, rfl⟩
  obtain ⟨Z4, u4⟩ : ∃ Z, Z = Y4 + Y6 := ⟨_, rfl⟩
  obtain ⟨Z5, u5⟩ : ∃ Z, Z = Y5 + X7 := ⟨_, rfl⟩
  have e5 : s5 Y0 = Z0 := by unfold s5; rw [w2, u0]
  have v0 : Z0 = (d0 + d1 + d2 + d3) + 256 * Z1 := by clear z1 z3 z4 z5 z6 u2 u3 u4 u5 w2 e4 e5; omega
  have v1 : Z1 = (d1 + d2 + d3 + d4) + 256 * Z2 := by clear z0 z2 z4 z5 z6 u0 u3 u4 u5 w2 e4 e5 v0; omega
  have v2 : Z2 = (d2 + d3 + d4 + d5) + 256 * Z3 := by clear z0 z1 z3 z5 z6 u0 u1 u4 u5 w2 e4 e5 v0 v1; omega
  have v3 : Z3 = (d3 + d4 + d5 + d6) + 256 * Z4 := by clear z0 z1 z2 z4 z6 u0 u1 u2 u5 w2 e4 e5 v0 v1 v2; omega
  have v4 : Z4 = (d4 + d5 + d6 + d7) + 256 * Z5 := by clear z0 z1 z2 z3 z5 u0 u1 u2 u3 w2 e4 e5 v0 v1 v2 v3; omega
  clear z0 z1 z2 z3 z4 z5 z6 u0 u1 u2 u3 u4 u5 w2 e4 k7
  rw [e5]
  have w4 : Z0 / 4294967296 = Z4 := by clear v4 e5; omega
  unfold s6; rw [w4]
  clear w4 v1 v2 v3 e5
  omega
theorem count_bytes (A : Nat) : ∀ k, (List.range (8 * (k + 1))).countP (fun i => A.testBit i) = (List.range 8).countP (fun i => (A % 256).testBit i) + (List.range (8 * k)).countP (fun i => (A / 256).testBit i) := by
  intro k
  have e : 8 * (k + 1) = 8 + 8 * k := by omega
  rw [e, List.range_add, List.countP_append, List.countP_map]
  congr 1
  · apply List.countP_congr
    intro i hi
    have := Nat.testBit_mod_two_pow A 8 i
    simp at hi this
    simp [this, hi]
  · apply List.countP_congr
    intro i _
    have := Nat.testBit_div_two_pow (n := 8) A i
    simp at this
    simp [Function.comp, this, Nat.add_comm]
theorem pc_eq (A : Nat) (h : A < 18446744073709551616) : s6 (s5 (s4 (T 8 A))) % 128 = pc A := by
  have sp : ∀ X, X = X % 256 + 256 * (X / 256) := fun X => by omega
  have t : ∀ k X, T (k + 1) X = p8 (X % 256) + 256 * T k (X / 256) := fun k X => by
    conv => lhs; rw [sp X]
    exact T_succ k _ _ (by omega)
  have q : ∀ k X, (List.range (8 * (k + 1))).countP (fun i => X.testBit i) = p8 (X % 256) + (List.range (8 * k)).countP (fun i => (X / 256).testBit i) := fun k X => by
    rw [count_bytes, p8_count _ (by omega)]
  have p : ∀ X, p8 (X % 256) ≤ 8 := fun X => p8_le _ (by omega)
  unfold pc
  rw [show (64 : Nat) = 8 * (7 + 1) from rfl, q, show 8 * 7 = 8 * (6 + 1) from rfl, q, show 8 * 6 = 8 * (5 + 1) from rfl, q, show 8 * 5 = 8 * (4 + 1) from rfl, q, show 8 * 4 = 8 * (3 + 1) from rfl, q, show 8 * 3 = 8 * (2 + 1) from rfl, q, show 8 * 2 = 8 * (1 + 1) from rfl, q, show 8 * 1 = 8 * (0 + 1) from rfl, q]
  have z : ∀ X, T 0 X = 0 := fun X => by simp [T, s3, mk]
  rw [sum8 _ _ _ _ _ _ _ _ _ _ _ _ _ _ _ _ (p A) (p (A / 256)) (p (A / 256 / 256)) (p (A / 256 / 256 / 256)) (p (A / 256 / 256 / 256 / 256)) (p (A / 256 / 256 / 256 / 256 / 256)) (p (A / 256 / 256 / 256 / 256 / 256 / 256)) (p (A / 256 / 256 / 256 / 256 / 256 / 256 / 256))
    (t 7 _) (t 6 _) (t 5 _) (t 4 _) (t 3 _) (t 2 _) (t 1 _) ((t 0 _).trans (by rw [z]; rfl))]
  simp only [Nat.mul_zero, List.range_zero, List.countP_nil]
  clear t q p z sp
  omega
theorem mk_le (m : Nat) (k A : Nat) : (A &&& mk m k) ≤ mk m k := Nat.and_le_right
theorem s1_le (A : Nat) : s1 8 A ≤ 12297829382473034410 := by
  unfold s1; have := mk_le 85 8 A; have := mk_le 85 8 (A / 2); have e : mk 85 8 = 6148914691236517205 := by decide
  omega
theorem s2_le (A : Nat) : s2 8 A ≤ 7378697629483820646 := by
  unfold s2; have := mk_le 51 8 A; have := mk_le 51 8 (A / 4); have e : mk 51 8 = 3689348814741910323 := by decide
  omega
theorem s3_le (A : Nat) : s3 8 A ≤ 1085102592571150095 := by
  unfold s3; have := mk_le 15 8 (A / 16 + A); have e : mk 15 8 = 1085102592571150095 := by decide
  omega
theorem fd (A : Nat) (k : Nat) (hk : k ≤ 64) (w : Int) (hw : w = ((A / 2 ^ k : Nat) : Int)) : ((A : Nat) : Int).fdiv (2 ^ min k IntKind.u64.bits) = w := by rw [hw, shr_u64 hk]
theorem x1 (A : Nat) (h : A < 18446744073709551616) : IntKind.u64.wrap (IntKind.u64.wrap (((BitVec.ofInt IntKind.u64.bits ((A : Int).fdiv (2 ^ min 1 IntKind.u64.bits)) &&& BitVec.ofInt IntKind.u64.bits 6148914691236517205).toNat : Nat) : Int) +
    IntKind.u64.wrap (((BitVec.ofInt IntKind.u64.bits (A : Int) &&& BitVec.ofInt IntKind.u64.bits 6148914691236517205).toNat : Nat) : Int)) = ((s1 8 A : Nat) : Int) := by
  rw [shr_u64 (by omega), show (6148914691236517205 : Int) = ((6148914691236517205 : Nat) : Int) from rfl, and_u64 (by omega) (by decide), and_u64 (by omega) (by decide)]
  have := s1_le A
  rw [← Int.natCast_add, wrap_u64 (Int.natCast_nonneg _)]
  · rfl
  · show ((s1 8 A : Nat) : Int) ≤ _
    omega
theorem x2 (A : Nat) (h : A < 18446744073709551616) : IntKind.u64.wrap (IntKind.u64.wrap (((BitVec.ofInt IntKind.u64.bits ((A : Int).fdiv (2 ^ min 2 IntKind.u64.bits)) &&& BitVec.ofInt IntKind.u64.bits 3689348814741910323).toNat : Nat) : Int) +
    IntKind.u64.wrap (((BitVec.ofInt IntKind.u64.bits (A : Int) &&& BitVec.ofInt IntKind.u64.bits 3689348814741910323).toNat : Nat) : Int)) = ((s2 8 A : Nat) : Int) := by
  rw [shr_u64 (by omega), show (3689348814741910323 : Int) = ((3689348814741910323 : Nat) : Int) from rfl, and_u64 (by omega) (by decide), and_u64 (by omega) (by decide)]
  have := s2_le A
  rw [← Int.natCast_add, wrap_u64 (Int.natCast_nonneg _)]
  · rfl
  · show ((s2 8 A : Nat) : Int) ≤ _
    omega
theorem x3 (A : Nat) (h : A ≤ 7378697629483820646) : IntKind.u64.wrap (((BitVec.ofInt IntKind.u64.bits (IntKind.u64.wrap ((A : Int).fdiv (2 ^ min 4 IntKind.u64.bits) + (A : Int))) &&& BitVec.ofInt IntKind.u64.bits 1085102592571150095).toNat : Nat) : Int) = ((s3 8 A : Nat) : Int) := by
  rw [shr_u64 (by omega), show (1085102592571150095 : Int) = ((1085102592571150095 : Nat) : Int) from rfl, ← Int.natCast_add, wrap_u64 (x := ((A / 2 ^ 4 + A : Nat) : Int)) (Int.natCast_nonneg _) (by omega), and_u64 (by omega) (by decide)]
  rfl
theorem x4 (A : Nat) (h : A ≤ 1085102592571150095) : IntKind.u64.wrap ((A : Int) + (A : Int).fdiv (2 ^ min 8 IntKind.u64.bits)) = ((s4 A : Nat) : Int) := by
  rw [shr_u64 (by omega), ← Int.natCast_add, wrap_u64 (Int.natCast_nonneg _) (by omega)]; rfl
theorem x5 (A : Nat) (h : A ≤ 2085102592571150095) : IntKind.u64.wrap ((A : Int) + (A : Int).fdiv (2 ^ min 16 IntKind.u64.bits)) = ((s5 A : Nat) : Int) := by
  rw [shr_u64 (by omega), ← Int.natCast_add, wrap_u64 (Int.natCast_nonneg _) (by omega)]; rfl
theorem x6 (A : Nat) (h : A ≤ 3085102592571150095) : IntKind.u64.wrap ((A : Int) + (A : Int).fdiv (2 ^ min 32 IntKind.u64.bits)) = ((s6 A : Nat) : Int) := by
  rw [shr_u64 (by omega), ← Int.natCast_add, wrap_u64 (Int.natCast_nonneg _) (by omega)]; rfl
theorem x7 (A : Nat) (h : A ≤ 4085102592571150095) : IntKind.i64.wrap (((BitVec.ofInt IntKind.i64.bits (IntKind.i64.wrap (A : Int)) &&& BitVec.ofInt IntKind.i64.bits 127).toNat : Nat) : Int) = ((A % 128 : Nat) : Int) := by
  rw [wrap_i64 (x := (A : Int)) (by omega) (by omega), show (127 : Int) = ((127 : Nat) : Int) from rfl, and_i64 (by omega) (by decide), show (127 : Nat) = 2 ^ 7 - 1 from rfl, Nat.and_two_pow_sub_one_eq_mod]
end Go.Ev.F07
end
section
/- plain: which pages are free, and those that are taken of them -/
namespace Go.Ev.F07
def frees (x n : Nat) : List Nat := (List.range n).filter fun i => !x.testBit i
def fst (x n : Nat) : Int := match frees x n with | [] => -1 | i :: _ => i
theorem fst_at {x n i : Nat} (h : i < n) (hj : ∀ j, j < i → x.testBit j = true) (hi : x.testBit i = false) : fst x n = i := by
  unfold fst frees
  obtain ⟨k, rfl⟩ : ∃ k, n = i + (k + 1) := ⟨n - i - 1, by omega⟩
  rw [List.range_add, List.filter_append, List.filter_eq_nil_iff.2 (by simpa using fun a ha => hj a ha), List.range_succ_eq_map]
  simp [hi]
theorem fst_none {x n : Nat} (hj : ∀ j, j < n → x.testBit j = true) : fst x n = -1 := by
  unfold fst frees
  rw [List.filter_eq_nil_iff.2 (by simpa using fun a ha => hj a ha)]

theorem frees_set {y n j : Nat} {t : List Nat} (h : frees y n = j :: t) : frees (setB y j true) n = t := by
  have hn : (frees y n).Nodup := List.Pairwise.filter _ List.nodup_range
  have e : frees (setB y j true) n = (frees y n).filter fun i => decide (i ≠ j) := by
    unfold frees
    rw [List.filter_filter]
    apply List.filter_congr
    intro i _
    rw [setB_test]
    by_cases hij : j = i
    · subst hij; simp
    · have : i ≠ j := fun e => hij e.symm
      simp [hij, this]
  rw [e, h]
  rw [h] at hn
  have hnot : j ∉ t := (List.nodup_cons.1 hn).1
  rw [List.filter_cons_of_neg (by simp)]
  exact List.filter_eq_self.2 fun a ha => by simp; exact fun e => hnot (e ▸ ha)
def addAll (x : Nat) (l : List Nat) : Nat := l.foldl (fun y i => setB y i true) x
theorem addAll_snoc (x : Nat) (l : List Nat) (i : Nat) : addAll x (l ++ [i]) = setB (addAll x l) i true := by simp [addAll]
theorem addAll_test (l : List Nat) (x j : Nat) : (addAll x l).testBit j = (x.testBit j || l.contains j) := by
  induction l generalizing x with
  | nil => simp [addAll]
  | cons i l ih =>
    show (addAll (setB x i true) l).testBit j = _
    rw [ih, setB_test]
    by_cases h : i = j
    · subst h; simp
    · have : ¬ j = i := fun e => h e.symm
      simp [h, this]
theorem mem_frees {x n i : Nat} : i ∈ frees x n ↔ i < n ∧ x.testBit i = false := by simp [frees]
theorem addAll_lt {x n : Nat} {l : List Nat} (hx : x < 2 ^ n) (hl : ∀ i ∈ l, i < n) : addAll x l < 2 ^ n := by
  induction l generalizing x with
  | nil => exact hx
  | cons i l ih => exact ih (setB_lt hx (hl i (by simp))) (fun j hj => hl j (by simp [hj]))
theorem frees_addAll (x n : Nat) : ∀ k, k ≤ (frees x n).length → frees (addAll x ((frees x n).take k)) n = (frees x n).drop k
  | 0, _ => by simp [addAll]
  | k + 1, h => by
    have ih := frees_addAll x n k (by omega)
    rw [List.drop_eq_getElem_cons (by omega)] at ih
    rw [List.take_succ_eq_append_getElem (by omega), addAll_snoc]
    exact frees_set ih
theorem fst_addAll {x n k : Nat} (h : k < (frees x n).length) : fst (addAll x ((frees x n).take k)) n = (frees x n)[k] := by
  unfold fst
  rw [frees_addAll x n k (by omega), List.drop_eq_getElem_cons h]
theorem free_eq {x n : Nat} (hn : n ≤ 120) (hx : x < 2 ^ n) : (n : Int) - pc (x % 18446744073709551616) - pc (x / 18446744073709551616) = (frees x n).length := by
  have h1 : pc (x % 18446744073709551616) + pc (x / 18446744073709551616) = (List.range 128).countP fun i => x.testBit i := by
    rw [show (128 : Nat) = 64 + 64 from rfl, List.range_add, List.countP_append, List.countP_map]
    unfold pc
    congr 1
    · exact List.countP_congr fun i hi => by simp at hi; rw [lo_test hi]
    · exact List.countP_congr fun i hi => by simp only [Function.comp]; rw [hi_test]
  have h2 : ((List.range 128).countP fun i => x.testBit i) = (List.range n).countP fun i => x.testBit i := by
    rw [show (128 : Nat) = n + (128 - n) by omega, List.range_add, List.countP_append]
    have : List.countP (fun i => x.testBit i) ((List.range (128 - n)).map fun a => n + a) = 0 := by
      rw [List.countP_eq_zero]
      intro a ha
      simp at ha
      obtain ⟨b, _, rfl⟩ := ha
      have : x < 2 ^ (n + b) := Nat.lt_of_lt_of_le hx (Nat.pow_le_pow_right (by omega) (by omega))
      simp [Nat.testBit_lt_two_pow this]
    omega
  have h3 := List.length_eq_countP_add_countP (fun i => x.testBit i) (l := List.range n)
  have h4 : (frees x n).length = (List.range n).countP fun i => !x.testBit i := by unfold frees; rw [List.countP_eq_length_filter]
  simp only [List.length_range] at h3
  have h5 : (List.countP (fun a => decide (¬x.testBit a = true)) (List.range n)) = (List.range n).countP fun i => !x.testBit i := List.countP_congr fun i _ => by simp
  omega
end Go.Ev.F07
end
