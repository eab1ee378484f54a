/- The law OctetWrites: num, wide. -/
import Derived.Test.YtncgeeaifacapaaReader2
import Derived.Test.YtncgeeaifacapaaL03a
namespace Go.Proofs.Ytncgeeaifacapaa
open Go.RowKit Go.Cat

theorem str_add3 (a b : List UInt8) : (⟨a.toArray⟩ : ByteArray) ++ ⟨b.toArray⟩ = ⟨(a ++ b).toArray⟩ := by
  apply ByteArray.ext
  simp
set_option maxRecDepth 100000 in
set_option maxHeartbeats 1000000 in
theorem num38 (x n : Nat) (w : World) (hx : x < 18446744073709551616) (hn : n ≤ 8) :
    Calls Try.prog 38 #[.int .u64 x, .int .i64 n] w fun e w' => e = .returned (.string ⟨(be x n).toArray⟩) ∧ Chg (fun _ => False) w w' := by
  go_enter Try.func38, Try.ntmps38
  go_wp2_with fail
  go_loopw [0, 5, 7] (fun y o i wr => ∃ k : Nat, k ≤ n ∧ i = .int .i64 k ∧ y = .int .u64 ((x / 256 ^ k : Nat) : Int) ∧ o = .string ⟨(be x k).toArray⟩ ∧ Hid (Chg (fun _ => False) w wr)) (fun _ _ i _ => n - (intOf i).toNat)
  case atStart =>
    exact ⟨0, by omega, rfl, by simp, rfl, Chg.refl _ _⟩
  case round =>
    obtain ⟨k, hk, rfl, rfl, rfl, hc⟩ := hrel
    obtain ⟨y, hy⟩ : ∃ y, y = x / 256 ^ k := ⟨_, rfl⟩
    rw [← hy]
    have hy64 : y < 18446744073709551616 := by rw [hy]; exact Nat.lt_of_le_of_lt (Nat.div_le_self _ _) hx
    have HY := Lib.hid hy
    clear hy
    by_cases hlt : k < n
    · have hkI : (k : Int) < n := by omega
      have hcv := convb _ _ _ (RB.one wr ((y : Int) % 256) 5 (by omega) (by omega))
      have hw1 : wrap64 ((k : Int) + 1) = (k : Int) + 1 := by unfold wrap64; omega
      go_wp2_with fail
      have e1 : UInt8.ofNat ((y : Int) % 256).toNat = UInt8.ofNat (y % 256) := by congr 1
      refine ⟨⟨k + 1, by omega, rfl, ?_, ?_, hc.out.alloc _⟩, by simp only [intOf]; omega⟩
      · rw [HY.out, Nat.pow_succ, ← Nat.div_div_eq_div_mul]
        rfl
      · rw [be, ← HY.out, ← List.singleton_append, ← str_add3]
        first | rfl | (rw [← e1]; rfl)
    · obtain rfl : k = n := by omega
      go_wp2_with fail
      go_ret
      exact ⟨rfl, hc.out⟩
def isW (n : Int) : Prop := n = 1 ∨ n = 2 ∨ n = 4 ∨ n = 8
instance (n : Int) : Decidable (isW n) := by unfold isW; infer_instance
set_option maxRecDepth 100000 in
theorem wide37 (n : Int) (w : World) :
    Calls Try.prog 37 #[.int .i64 n] w fun e w' => e = .returned (.bool (decide (isW n))) ∧ w = w' := by
  unfold isW
  by_cases h1 : n = 1
  · subst h1
    go_enter Try.func37, Try.ntmps37
    go_wp2_with fail
    go_ret
    exact ⟨rfl, rfl⟩
  · by_cases h2 : n = 2
    · subst h2
      go_enter Try.func37, Try.ntmps37
      go_wp2_with fail
      go_ret
      exact ⟨rfl, rfl⟩
    · by_cases h4 : n = 4
      · subst h4
        go_enter Try.func37, Try.ntmps37
        go_wp2_with fail
        go_ret
        exact ⟨rfl, rfl⟩
      · by_cases h8 : n = 8
        · subst h8
          go_enter Try.func37, Try.ntmps37
          go_wp2_with fail
          go_ret
          exact ⟨rfl, rfl⟩
        · have e1 : (n == 1) = false := by simpa using h1
          have e2 : (n == 2) = false := by simpa using h2
          have e4 : (n == 4) = false := by simpa using h4
          have e8 : (n == 8) = false := by simpa using h8
          have hF : decide (n = 1 ∨ n = 2 ∨ n = 4 ∨ n = 8) = false := decide_eq_false (by omega)
          rw [hF]
          clear hF h1 h2 h4 h8
          go_enter Try.func37, Try.ntmps37
          go_wp2_with fail
          go_ret
          exact ⟨rfl, rfl⟩
end Go.Proofs.Ytncgeeaifacapaa
