/- Plain words on numbers as bytes: no program. -/
import GoSem.Op.String
namespace Go.Cat

/-- x as n bytes, the highest first. -/
def be (x : Nat) : Nat → List UInt8
  | 0 => []
  | n + 1 => UInt8.ofNat (x / 256 ^ n % 256) :: be x n
@[simp] theorem be_length (x n : Nat) : (be x n).length = n := by
  induction n with
  | zero => rfl
  | succ n ih => simp [be, ih]

/-- How many bits a number has. -/
def bitw (x : Nat) : Nat := if x = 0 then 0 else x.log2 + 1
theorem bitw_le (x k : Nat) : bitw x ≤ k ↔ x < 2 ^ k := by
  unfold bitw
  by_cases h : x = 0
  · subst h; simp [Nat.two_pow_pos]
  · rw [if_neg h, ← Nat.log2_lt h]; omega
theorem bitw_shift (x k : Nat) (h : 0 < x / 2 ^ k) : bitw x = k + bitw (x / 2 ^ k) := by
  apply Nat.le_antisymm
  · rw [bitw_le]
    have h2 := (bitw_le (x / 2 ^ k) (bitw (x / 2 ^ k))).1 (Nat.le_refl _)
    rw [Nat.pow_add]
    rw [Nat.div_lt_iff_lt_mul (Nat.two_pow_pos k)] at h2
    rwa [Nat.mul_comm]
  · have h1 := (bitw_le x (bitw x)).1 (Nat.le_refl _)
    have hk : k ≤ bitw x := by
      rcases Nat.lt_or_ge (bitw x) k with h' | h'
      · have := Nat.lt_of_lt_of_le h1 (Nat.pow_le_pow_right (by omega) (Nat.le_of_lt h'))
        rw [Nat.div_eq_of_lt this] at h; omega
      · exact h'
    have : bitw (x / 2 ^ k) ≤ bitw x - k := by
      rw [bitw_le, Nat.div_lt_iff_lt_mul (Nat.two_pow_pos k), ← Nat.pow_add, Nat.sub_add_cancel hk]
      exact h1
    omega
theorem bitw_64 (x : Nat) (h : x < 18446744073709551616) : bitw x ≤ 64 := (bitw_le x 64).2 h
theorem bitw_small (x : Nat) (h : x < 2) : bitw x = x := by
  rcases (show x = 0 ∨ x = 1 by omega) with rfl | rfl <;> decide
theorem width_step (x k : Nat) (n : Int) (t : Nat) (hn : n + bitw x = t) (h : 0 < x / 2 ^ k) : n + k + bitw (x / 2 ^ k) = t := by
  have := bitw_shift x k h; omega
theorem width_step' (x k p : Nat) (n : Int) (t : Nat) (hp : p = 2 ^ k) (hn : n + bitw x = t) (h : 0 < (x : Int) / (p : Nat)) (ht : t ≤ 64) : n + k + bitw (x / p) = t ∧ n + k ≤ 64 := by
  subst hp
  have h' : 0 < x / 2 ^ k := by exact_mod_cast h
  have := width_step x k n t hn h'
  omega
theorem be_succ (x : Int) (i : Nat) (h0 : 0 ≤ x) : be x.toNat (i + 1) = UInt8.ofNat (x / 2 ^ (8 * i) % 256).toNat :: be x.toNat i := by
  obtain ⟨n, rfl⟩ := Int.eq_ofNat_of_zero_le h0
  simp only [be, Int.toNat_natCast]
  congr 2
  have : ((n : Int) / 2 ^ (8 * i) % 256) = ((n / 256 ^ i % 256 : Nat) : Int) := by
    rw [show (256 : Nat) ^ i = 2 ^ (8 * i) by rw [Nat.pow_mul]]
    rw [Int.natCast_emod, Int.natCast_ediv, Int.natCast_pow]
    rfl
  rw [this, Int.toNat_natCast]
theorem num_step (x : Int) (l l' : List UInt8) (i n : Nat) (h0 : 0 ≤ x) (h : l' ++ be x.toNat (i + 1) = l ++ be x.toNat n) (hl : l.length + n ≤ 140737488355327) :
    l'.length + 1 ≤ 140737488355328 ∧ (l' ++ [UInt8.ofNat (x / 2 ^ (8 * i) % 256).toNat]) ++ be x.toNat i = l ++ be x.toNat n := by
  have := congrArg List.length h
  simp only [List.length_append, be_length] at this
  refine ⟨by omega, ?_⟩
  rw [← h, be_succ x i h0]; simp
theorem be_mod (x n k : Nat) (h : n ≤ k) : be (x % 256 ^ k) n = be x n := by
  induction n with
  | zero => rfl
  | succ n ih =>
    simp only [be]
    rw [ih (by omega)]
    congr 2
    have e : 256 ^ k = 256 ^ n * (256 * 256 ^ (k - n - 1)) := by
      rw [← Nat.mul_assoc, ← Nat.pow_succ, ← Nat.pow_add]; congr 1; omega
    rw [e, Nat.mod_mul_right_div_self, Nat.mod_mul_right_mod]
theorem toNat_ofNat_lt (n : Nat) (h : n < 256) : (UInt8.ofNat n).toNat = n := by simp [UInt8.toNat_ofNat']; omega
theorem bytesLess_be (n : Nat) : ∀ (x y : Nat), x < 256 ^ n → y < 256 ^ n → Op.bytesLess (be x n) (be y n) = decide (x < y) := by
  induction n with
  | zero => intro x y hx hy; simp at hx hy; subst hx hy; rfl
  | succ n ih =>
    intro x y hx hy
    have hp : 0 < 256 ^ n := Nat.pow_pos (by omega)
    have dx : x / 256 ^ n < 256 := by rw [Nat.div_lt_iff_lt_mul hp, Nat.mul_comm, ← Nat.pow_succ]; exact hx
    have dy : y / 256 ^ n < 256 := by rw [Nat.div_lt_iff_lt_mul hp, Nat.mul_comm, ← Nat.pow_succ]; exact hy
    have i1 := ih (x % 256 ^ n) (y % 256 ^ n) (Nat.mod_lt _ hp) (Nat.mod_lt _ hp)
    rw [be_mod _ _ _ (Nat.le_refl _), be_mod _ _ _ (Nat.le_refl _)] at i1
    have ex := Nat.div_add_mod x (256 ^ n)
    have ey := Nat.div_add_mod y (256 ^ n)
    have mx := Nat.mod_lt x hp
    have my := Nat.mod_lt y hp
    simp only [be, Op.bytesLess, i1, Nat.mod_eq_of_lt dx, Nat.mod_eq_of_lt dy]
    generalize x / 256 ^ n = qx at *
    generalize y / 256 ^ n = qy at *
    generalize x % 256 ^ n = rx at *
    generalize y % 256 ^ n = ry at *
    generalize 256 ^ n = p at *
    have hlt : (UInt8.ofNat qx < UInt8.ofNat qy) = (qx < qy) := by
      rw [UInt8.lt_iff_toNat_lt, toNat_ofNat_lt qx dx, toNat_ofNat_lt qy dy]
    have heq : (UInt8.ofNat qx == UInt8.ofNat qy) = decide (qx = qy) := by
      rw [Bool.eq_iff_iff]
      simp only [beq_iff_eq, decide_eq_true_eq]
      constructor
      · intro h; have := congrArg UInt8.toNat h; rwa [toNat_ofNat_lt qx dx, toNat_ofNat_lt qy dy] at this
      · intro h; rw [h]
    rw [heq]
    simp only [hlt]
    subst ex ey
    rw [Bool.eq_iff_iff]
    simp only [Bool.or_eq_true, Bool.and_eq_true, decide_eq_true_eq]
    constructor
    · rintro (h | ⟨h1, h2⟩)
      · have : p * qx + p ≤ p * qy := by rw [← Nat.mul_succ]; exact Nat.mul_le_mul_left p h
        omega
      · subst h1; omega
    · intro h
      rcases Nat.lt_trichotomy qx qy with h1 | h1 | h1
      · exact .inl h1
      · subst h1; exact .inr ⟨rfl, by omega⟩
      · have : p * qy + p ≤ p * qx := by rw [← Nat.mul_succ]; exact Nat.mul_le_mul_left p h1
        omega
theorem orders_close (x y : Int) (n : Nat) (hx : 0 ≤ x) (hy : 0 ≤ y) (hx' : x.toNat < 256 ^ n) (hy' : y.toNat < 256 ^ n) : (Op.bytesLess (be x.toNat n) (be y.toNat n) == decide (x < y)) = true := by
  rw [bytesLess_be n _ _ hx' hy', beq_iff_eq]
  exact decide_eq_decide.2 (by omega)
/-- The steps. -/
def steps : List Nat := [32, 16, 8, 4, 2, 1]
/-- What bounds the number ahead of step k. -/
def stepTop : Nat → Nat
  | 0 => 18446744073709551616
  | 1 => 4294967296
  | 2 => 65536
  | 3 => 256
  | 4 => 16
  | 5 => 4
  | _ => 2
end Go.Cat
