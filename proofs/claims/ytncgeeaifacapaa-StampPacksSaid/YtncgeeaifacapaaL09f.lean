/- The law StampTorn, its plain words: what a torn sector is. -/
import Derived.Test.YtncgeeaifacapaaStampPure2
namespace Go.Proofs.Ytncgeeaifacapaa
open Go.RowKit Go.Cat

theorem be_zero {x n : Nat} (hx : x < 256 ^ n) (h : ∀ b ∈ be x n, b = 0) : x = 0 := by
  have h2 : be x n = List.replicate n 0 := List.eq_replicate_iff.2 ⟨by simp, h⟩
  have h3 := ofBe_be x n hx
  have h4 : ∀ m a : Nat, (List.replicate m (0 : UInt8)).foldl (fun a b => a * 256 + b.toNat) a = a * 256 ^ m := by
    intro m
    induction m with
    | zero => intro a; simp
    | succ m ih =>
      intro a
      rw [List.replicate_succ, List.foldl_cons, ih]
      rw [Nat.pow_succ, Nat.mul_comm (256 ^ m) 256, ← Nat.mul_assoc]
      simp
  rw [h2, ofBe, h4, Nat.zero_mul] at h3
  exact h3.symm
theorem zb_len : (zb 64).length = 64 := by simp
theorem pack_8_inj {T P T2 P2 : Nat} {L L2 : Bool} {d d2 : List UInt8} (hT : T < 4294967296) (hP : P < 4294967296) (hT2 : T2 < 4294967296) (hP2 : P2 < 4294967296) (h : (packOf T P L d).take 8 = (packOf T2 P2 L2 d2).take 8) : T = T2 ∧ P = P2 := by
  rw [pack_8, pack_8] at h
  have h1 := (List.append_inj h (by simp)).1
  have h2 := (List.append_inj h (by simp)).2
  have e1 := ofBe_be T 4 (by omega)
  have e2 := ofBe_be P 4 (by omega)
  rw [h1, ofBe_be T2 4 (by omega)] at e1
  rw [h2, ofBe_be P2 4 (by omega)] at e2
  exact ⟨e1.symm, e2.symm⟩
theorem torn_three {T P T2 P2 : Nat} {L L2 : Bool} {d d2 old fresh : List UInt8} {k : Nat} {r : Int} (hT : T < 4294967296) (hP : P < 4294967296) (hT2 : T2 < 4294967296) (hP2 : P2 < 4294967296) (h0 : T ≠ 0) (h02 : T2 ≠ 0) (hd : d.length ≤ 47) (hd2 : d2.length ≤ 47)
    (hne : ¬ (T = T2 ∧ P = P2)) (ho : old = packOf T P L d ∧ r ≠ 1 ∨ old = zb 64 ∧ r = 1) (hf : fresh = packOf T2 P2 L2 d2 ∧ r ≠ 2 ∨ fresh = zb 64 ∧ r = 2) (hk : k ≤ 64) :
    (fresh.take k ++ old.drop k).length = 64 ∧
    ((∀ x ∈ fresh.take k ++ old.drop k, x = 0) ∧ r ≠ 0 ∨ (¬ ∀ x ∈ fresh.take k ++ old.drop k, x = 0) ∧ ¬ stampsAlike (fresh.take k ++ old.drop k) ∨
      fresh.take k ++ old.drop k = packOf T P L d ∧ r ≠ 1 ∨ fresh.take k ++ old.drop k = packOf T2 P2 L2 d2 ∧ r ≠ 2) := by
  have hfl : fresh.length = 64 := by rcases hf with ⟨rfl, _⟩ | ⟨rfl, _⟩; exact pack_len hd2; exact zb_len
  have hol : old.length = 64 := by rcases ho with ⟨rfl, _⟩ | ⟨rfl, _⟩; exact pack_len hd; exact zb_len
  have hlk : (fresh.take k).length = k := by simp; omega
  have hlen : (fresh.take k ++ old.drop k).length = 64 := by simp; omega
  have hf8 : fresh.take 8 = fresh.drop 56 := by
    rcases hf with ⟨rfl, _⟩ | ⟨rfl, _⟩
    · rw [pack_8, pack_end hd2]
    · exact zb_8
  have ho8 : old.take 8 = old.drop 56 := by
    rcases ho with ⟨rfl, _⟩ | ⟨rfl, _⟩
    · rw [pack_8, pack_end hd]
    · exact zb_8
  refine ⟨hlen, ?_⟩
  by_cases hz : ∀ x ∈ fresh.take k ++ old.drop k, x = 0
  · refine .inl ⟨hz, fun hr => ?_⟩
    subst hr
    by_cases h8 : k < 8
    · rcases ho with ⟨rfl, _⟩ | ⟨_, h⟩
      · have h1 : (fresh.take k ++ (packOf T P L d).drop k).drop 56 = (packOf T P L d).drop 56 := by
          rw [List.drop_append, hlk, List.drop_eq_nil_of_le (by omega), List.drop_drop, List.nil_append]; congr 1; omega
        refine h0 (be_zero (n := 4) (by omega) fun b hb => hz b ?_)
        rw [← pack_end_t (turn := T) (place := P) (last := L) hd, ← h1] at hb
        exact List.mem_of_mem_drop (List.mem_of_mem_take hb)
      · omega
    · rcases hf with ⟨rfl, _⟩ | ⟨_, h⟩
      · have h1 : ((packOf T2 P2 L2 d2).take k ++ old.drop k).take 4 = (packOf T2 P2 L2 d2).take 4 := by
          rw [List.take_append_of_le_length (by omega), List.take_take, Nat.min_eq_left (by omega)]
        refine h02 (be_zero (n := 4) (by omega) fun b hb => hz b ?_)
        rw [← pack_t (turn := T2) (place := P2) (last := L2) (d := d2), ← h1] at hb
        exact List.mem_of_mem_take hb
      · omega
  · by_cases ha : stampsAlike (fresh.take k ++ old.drop k)
    · have hne8 : fresh.take 8 ≠ old.take 8 := by
        rcases hf with ⟨rfl, _⟩ | ⟨rfl, hr⟩
        · rcases ho with ⟨rfl, _⟩ | ⟨rfl, _⟩
          · intro h
            have := pack_8_inj hT2 hP2 hT hP h
            exact hne ⟨this.1.symm, this.2.symm⟩
          · exact pack_ne_zb hT2 h02
        · rcases ho with ⟨rfl, _⟩ | ⟨rfl, _⟩
          · exact fun h => pack_ne_zb hT h0 h.symm
          · omega
      rcases torn_or hfl hf8 ho8 hne8 hk (alike_8 hlen ha) with h | h
      · rw [h] at hz ⊢
        rcases hf with ⟨rfl, hr⟩ | ⟨rfl, _⟩
        · exact .inr (.inr (.inr ⟨rfl, hr⟩))
        · exact absurd (fun x hx => (List.mem_replicate.1 hx).2) hz
      · rw [h] at hz ⊢
        rcases ho with ⟨rfl, hr⟩ | ⟨rfl, _⟩
        · exact .inr (.inr (.inl ⟨rfl, hr⟩))
        · exact absurd (fun x hx => (List.mem_replicate.1 hx).2) hz
    · exact .inr (.inl ⟨hz, ha⟩)
end Go.Proofs.Ytncgeeaifacapaa
