/- Plain words: a number's bytes tell it. -/
import Derived.Test.YtjhkhdockiocgaaReader
namespace Go.Proofs.Ytjhkhdockiocgaa
open Go.RowKit Go.Cat

theorem ofBe_beP (x n : Nat) (h : x < 256 ^ n) : ofBe (be x n) = x := by
  have key : ∀ (n a : Nat), (be x n).foldl (fun a b => a * 256 + b.toNat) a = a * 256 ^ n + x % 256 ^ n := by
    intro n
    induction n with
    | zero => intro a; simp [be, Nat.mod_one]
    | succ n ih =>
      intro a
      have h : (UInt8.ofNat (x / 256 ^ n % 256)).toNat = x / 256 ^ n % 256 := by
        rw [UInt8.toNat_ofNat']; omega
      rw [be, List.foldl_cons, ih, h, Nat.add_mul, Nat.pow_succ, Nat.mod_mul, Nat.mul_assoc, Nat.mul_comm 256 (256 ^ n), Nat.mul_comm (256 ^ n) (x / 256 ^ n % 256)]
      omega
  rw [ofBe, key, Nat.mod_eq_of_lt h]; simp
theorem be_eq {x y : Nat} {n : Nat} (hx : x < 256 ^ n) (hy : y < 256 ^ n) (h : be x n = be y n) : x = y := by
  have := congrArg ofBe h
  rwa [ofBe_beP x n hx, ofBe_beP y n hy] at this
theorem foldBe : ∀ (l : List UInt8) (a : Nat), l.foldl (fun a b => a * 256 + b.toNat) a = a * 256 ^ l.length + ofBe l
  | [], a => by simp [ofBe]
  | c :: l, a => by
    have h1 := foldBe l (a * 256 + c.toNat)
    have h2 : ofBe (c :: l) = c.toNat * 256 ^ l.length + ofBe l := by
      have := foldBe l (0 * 256 + c.toNat)
      rw [Nat.zero_mul, Nat.zero_add] at this
      rw [← this]; simp [ofBe]
    rw [List.foldl_cons, h1, h2, List.length_cons, Nat.pow_succ, Nat.add_mul, Nat.mul_assoc, Nat.mul_comm 256]
    omega
theorem ofBe_cons (b : UInt8) (l : List UInt8) : ofBe (b :: l) = b.toNat * 256 ^ l.length + ofBe l := by
  have := foldBe l (0 * 256 + b.toNat)
  rw [Nat.zero_mul, Nat.zero_add] at this
  rw [← this]; simp [ofBe]
theorem be_ofBe : ∀ (l : List UInt8), be (ofBe l) l.length = l
  | [] => rfl
  | b :: l => by
    have ih := be_ofBe l
    have hl := ofBe_lt l
    have hb : b.toNat < 256 := b.toNat_lt
    rw [ofBe_cons, List.length_cons, be]
    have h1 : (b.toNat * 256 ^ l.length + ofBe l) / 256 ^ l.length = b.toNat := by
      rw [Nat.mul_comm, Nat.mul_add_div (Nat.pow_pos (by decide)), Nat.div_eq_of_lt hl, Nat.add_zero]
    rw [h1, Nat.mod_eq_of_lt hb]
    have h2 : be (b.toNat * 256 ^ l.length + ofBe l) l.length = be (ofBe l) l.length := by
      have := be_mod (b.toNat * 256 ^ l.length + ofBe l) l.length l.length (Nat.le_refl _)
      rw [← this, Nat.mul_comm, Nat.mul_add_mod, Nat.mod_eq_of_lt hl]
    rw [h2, ih]
    simp
end Go.Proofs.Ytjhkhdockiocgaa
