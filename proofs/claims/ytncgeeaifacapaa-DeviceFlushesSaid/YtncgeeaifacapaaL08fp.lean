/- The law DeviceFlushes, its plain words. -/
import Derived.Test.YtncgeeaifacapaaL08
namespace Go.Proofs.Ytncgeeaifacapaa
open Go.RowKit Go.Cat

/-- The writings of a row of texts, the first one at place off. -/
def waitsOf (off : Nat) : List (List UInt8) → List (Nat × List UInt8)
  | [] => []
  | l :: ls => (off, pad l) :: waitsOf (off + 1) ls
theorem waitsOf_length : ∀ (ls : List (List UInt8)) (off : Nat), (waitsOf off ls).length = ls.length
  | [], _ => rfl
  | _ :: ls, off => by simp [waitsOf, waitsOf_length ls]
theorem waitsOf_at : ∀ (ls : List (List UInt8)) (off k : Nat) (l : List UInt8), ls[k]? = some l → (waitsOf off ls)[k]? = some (off + k, pad l)
  | [], _, _, _, h => by simp at h
  | x :: ls, off, 0, l, h => by simp at h; subst h; simp [waitsOf]
  | x :: ls, off, k + 1, l, h => by
    have := waitsOf_at ls (off + 1) k l (by simpa using h)
    simp only [waitsOf, List.getElem?_cons_succ, this]
    congr 2; omega
theorem waitsOf_snoc : ∀ (ls : List (List UInt8)) (off : Nat) (l : List UInt8), waitsOf off (ls ++ [l]) = waitsOf off ls ++ [(off + ls.length, pad l)]
  | [], off, l => by simp [waitsOf]
  | x :: ls, off, l => by
    simp only [List.cons_append, waitsOf, waitsOf_snoc ls (off + 1) l, List.length_cons]
    congr 4; omega
theorem waitsOf_take (ls : List (List UInt8)) (off k : Nat) (l : List UInt8) (h : ls[k]? = some l) : waitsOf off (ls.take (k + 1)) = waitsOf off (ls.take k) ++ [(off + k, pad l)] := by
  have hk := (List.getElem?_eq_some_iff.1 h).1
  rw [List.take_add_one, h, Option.toList_some, waitsOf_snoc, List.length_take, Nat.min_eq_left (by omega)]
theorem flushed_at : ∀ (ls : List (List UInt8)) (L : List (List UInt8)) (off i : Nat), off + ls.length ≤ L.length →
    (flushTo L (waitsOf off ls))[i]? = if off ≤ i ∧ i < off + ls.length then (ls[i - off]?).map pad else L[i]?
  | [], L, off, i, _ => by
    rw [if_neg (by simp)]; rfl
  | l :: ls, L, off, i, h => by
    simp only [List.length_cons] at h
    have ih := flushed_at ls (L.set off (pad l)) (off + 1) i (by simp; omega)
    simp only [waitsOf, flushTo, List.foldl_cons] at ih ⊢
    rw [ih]
    simp only [List.length_cons, List.getElem?_set]
    by_cases h1 : off = i
    · subst h1
      rw [if_neg (by omega), if_pos rfl, if_pos (by omega), if_pos (by omega)]
      simp
    · by_cases h2 : off + 1 ≤ i ∧ i < off + 1 + ls.length
      · rw [if_pos h2, if_pos (by omega), show i - off = (i - (off + 1)) + 1 by omega]
        simp
      · rw [if_neg h2, if_neg h1, if_neg (by omega)]
theorem crashed_at (keep : Nat) (L : List (List UInt8)) (ls : List (List UInt8)) (off i : Nat) (hL : off + ls.length ≤ L.length) (h20 : ls.length ≤ 20) (h64 : ∀ l ∈ ls, l.length ≤ 64) (hl64 : ∀ x ∈ L, x.length = 64) :
    ∀ k, k ≤ ls.length → (crashTo keep (-1) 0 L (waitsOf off ls) k)[i]? = if (off ≤ i ∧ i < off + k) ∧ keep.testBit (i - off) = true then (ls[i - off]?).map pad else L[i]?
  | 0, _ => by rw [if_neg (by omega)]; rfl
  | k + 1, hk => by
    have ih := crashed_at keep L ls off i hL h20 h64 hl64 k (by omega)
    obtain ⟨l, hl⟩ : ∃ l, ls[k]? = some l := ⟨_, List.getElem?_eq_getElem (by omega)⟩
    have hlen := (crashTo_ok keep (-1) 0 L (waitsOf off ls) (fun x hx => by
      obtain ⟨j, hj⟩ := List.getElem?_of_mem hx
      have hjl := (List.getElem?_eq_some_iff.1 hj).1
      rw [waitsOf_length] at hjl
      rw [waitsOf_at ls off j _ (List.getElem?_eq_getElem hjl)] at hj
      cases hj
      exact ⟨pad_length (h64 _ (List.getElem_mem _)), by simp only; omega⟩) hl64 k)
    have hpl : (pad l).length = 64 := pad_length (h64 l (List.mem_of_getElem? hl))
    simp only [crashTo, waitsOf_at ls off k l hl, crashStep]
    have ht : tornN (-1) 0 k = 64 := by unfold tornN; rw [if_neg (by omega)]
    have hm : k % 64 = k := by omega
    rw [ht, hm]
    by_cases hb : keep.testBit k = true
    · rw [if_pos hb, List.getElem?_set]
      have hin : off + k < (crashTo keep (-1) 0 L (waitsOf off ls) k).length := by rw [hlen.1]; omega
      by_cases h1 : off + k = i
      · subst h1
        rw [if_pos rfl, if_pos hin, show off + k - off = k by omega, if_pos ⟨⟨by omega, by omega⟩, hb⟩, hl]
        have hd : ((crashTo keep (-1) 0 L (waitsOf off ls) k).getD (off + k) []).length = 64 := by
          rw [List.getD_eq_getElem?_getD, List.getElem?_eq_getElem hin]
          exact hlen.2 _ (List.getElem_mem hin)
        rw [List.take_of_length_le (by omega), List.drop_eq_nil_of_le (by omega)]
        simp
      · rw [if_neg h1, ih]
        by_cases h2 : (off ≤ i ∧ i < off + k) ∧ keep.testBit (i - off) = true
        · rw [if_pos h2, if_pos ⟨⟨by omega, by omega⟩, h2.2⟩]
        · rw [if_neg h2, if_neg (fun h3 => h2 ⟨⟨by omega, by omega⟩, h3.2⟩)]
    · rw [if_neg hb, ih]
      by_cases h2 : (off ≤ i ∧ i < off + k) ∧ keep.testBit (i - off) = true
      · rw [if_pos h2, if_pos ⟨⟨by omega, by omega⟩, h2.2⟩]
      · rw [if_neg h2, if_neg (fun h3 => h2 ⟨⟨by omega, by
          rcases Nat.lt_or_ge i (off + k) with h4 | h4
          · exact h4
          · have : i - off = k := by omega
            rw [this] at h3; exact absurd h3.2 hb⟩, h3.2⟩)]
theorem waitsOf_ok : ∀ (ls : List (List UInt8)) (off : Nat), (∀ l ∈ ls, l.length ≤ 64) → ∀ x ∈ waitsOf off ls, x.2.length = 64
  | [], _, _, x, hx => by simp [waitsOf] at hx
  | l :: ls, off, h, x, hx => by
    rcases List.mem_cons.1 hx with rfl | hx
    · exact pad_length (h l (by simp))
    · exact waitsOf_ok ls (off + 1) (fun y hy => h y (by simp [hy])) x hx
/-- A sector out of the image. -/
theorem flatten_at : ∀ (L : List (List UInt8)) (_ : ∀ x ∈ L, x.length = 64) (i : Nat) (x : List UInt8), L[i]? = some x → (L.flatten.drop (64 * i)).take 64 = x
  | [], _, _, _, h => by simp at h
  | y :: L, hl, 0, x, h => by
    simp at h; subst h
    have := hl y (by simp)
    rw [List.flatten_cons, Nat.mul_zero, List.drop_zero, List.take_append_of_le_length (by omega), List.take_of_length_le (by omega)]
  | y :: L, hl, i + 1, x, h => by
    have hy := hl y (by simp)
    rw [List.flatten_cons, show 64 * (i + 1) = y.length + 64 * i by omega, List.drop_length_add_append]
    exact flatten_at L (fun z hz => hl z (by simp [hz])) i x (by simpa using h)
end Go.Proofs.Ytncgeeaifacapaa
