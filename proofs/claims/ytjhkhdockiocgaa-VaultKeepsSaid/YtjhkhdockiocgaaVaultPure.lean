/- A vault's sectors: plain words. -/
import Derived.Test.YtjhkhdockiocgaaVault3
namespace Go.Proofs.Ytjhkhdockiocgaa
open Go.RowKit Go.Cat

/-- The half 'half' of a device of 2q sectors bears the journal of turn t with the records done; the other half bears nothing. -/
structure VInv (d : Dev) (q half t : Nat) (done : List (List UInt8)) : Prop where
  j : JInv d (half * q) q t (fun o => o = zb 64) done []
  other : ∀ i, i < q → d.l[(1 - half) * q + i]? = some (zb 64)
  len : d.l.length = 2 * q
  h1 : half ≤ 1
theorem VInv.waits {d : Dev} {q half t : Nat} {done : List (List UInt8)} (h : VInv d q half t done) : d.waits = [] := by have := h.j.waits; rw [this]; rfl
theorem half_cases {half : Nat} (h : half ≤ 1) : half = 0 ∨ half = 1 := by omega
/-- Each sector of the device. -/
theorem VInv.at_ {d : Dev} {q half t : Nat} {done : List (List UInt8)} (h : VInv d q half t done) (i : Nat) (hi : i < 2 * q) :
    d.l[i]? = if half * q ≤ i ∧ i < half * q + total done then (secsOf t 0 done)[i - half * q]? else some (zb 64) := by
  have hf := h.j.fits
  simp only [total] at hf
  rcases half_cases h.h1 with rfl | rfl
  · simp only [Nat.zero_mul, Nat.zero_add, Nat.zero_le, true_and, Nat.sub_zero] at *
    have hj := h.j
    simp only [Nat.zero_mul] at hj
    by_cases h1 : i < total done
    · rw [if_pos h1]
      have := hj.there i h1
      rwa [Nat.zero_add] at this
    · rw [if_neg h1]
      by_cases h2 : i < q
      · obtain ⟨o, h3, _, h4⟩ := hj.old i (by omega) h2
        rw [Nat.zero_add] at h3
        rw [h3, h4]
      · have := h.other (i - q) (by omega)
        rw [show (1 - 0) * q + (i - q) = i by simp; omega] at this
        exact this
  · have hj := h.j
    simp only [Nat.one_mul] at *
    by_cases h1 : q ≤ i ∧ i < q + total done
    · rw [if_pos h1]
      have := hj.there (i - q) (by omega)
      rwa [show q + (i - q) = i by omega] at this
    · rw [if_neg h1]
      by_cases h2 : i < q
      · have := h.other i h2
        rwa [show (1 - 1) * q + i = i by simp] at this
      · obtain ⟨o, h3, _, h4⟩ := hj.old (i - q) (by omega) (by omega)
        rw [show q + (i - q) = i by omega] at h3
        rw [h3, h4]
theorem VInv.eq {d d' : Dev} {q half t : Nat} {done : List (List UInt8)} (h : VInv d q half t done) (h' : VInv d' q half t done) : d.l = d'.l := by
  apply List.ext_getElem?
  intro i
  by_cases hi : i < 2 * q
  · rw [h.at_ i hi, h'.at_ i hi]
  · rw [List.getElem?_eq_none (by rw [h.len]; omega), List.getElem?_eq_none (by rw [h'.len]; omega)]
theorem VInv.known {d : Dev} {q half t : Nat} {done : List (List UInt8)} (h : VInv d q half t done) (ht : t < 4294967296) (h0 : t ≠ 0) : KnownAll d.l := fun x hx => by
  obtain ⟨i, hi⟩ := List.getElem?_of_mem hx
  have hil := (List.getElem?_eq_some_iff.1 hi).1
  rw [h.len] at hil
  rw [h.at_ i hil] at hi
  split at hi
  · obtain ⟨L, e, h3, rfl⟩ := secsOf_at t done 0 _ x hi
    exact ⟨pack_len h3, .inr (.inr (packOf_sound h3 ht h0))⟩
  · cases hi; exact zb_known
theorem turnB_zb : turnB (zb 64) = 0 := if_neg (fun h => h.1 (fun b hb => (List.mem_replicate.1 hb).2))
theorem turnB_pack {t p : Nat} {L : Bool} {e : List UInt8} (he : e.length ≤ 47) (ht : t < 4294967296) (h0 : t ≠ 0) : turnB (packOf t p L e) = t := (if_pos (packOf_sound he ht h0)).trans (packOf_turn ht)
theorem VInv.max {d : Dev} {q half t : Nat} {done : List (List UInt8)} (h : VInv d q half t done) (ht : t < 4294967296) (h0 : t ≠ 0) (hd : done ≠ []) : maxT d.l = t := by
  have hf := h.j.fits
  simp only [total] at hf
  refine Nat.le_antisymm (maxT_le fun x hx => ?_) ?_
  · obtain ⟨i, hi⟩ := List.getElem?_of_mem hx
    have hil := (List.getElem?_eq_some_iff.1 hi).1
    rw [h.len] at hil
    rw [h.at_ i hil] at hi
    split at hi
    · obtain ⟨L, e, h3, rfl⟩ := secsOf_at t done 0 _ x hi
      rw [turnB_pack h3 ht h0]; exact Nat.le_refl _
    · cases hi; rw [turnB_zb]; omega
  · have htp : 0 < total done := by
      cases done with
      | nil => exact absurd rfl hd
      | cons r rs => simp only [total]; have := costN_pos r.length; omega
    have hlt : half * q < 2 * q := by rcases half_cases h.h1 with rfl | rfl <;> omega
    obtain ⟨x, hx⟩ := getElem?_some_lt (show 0 < (secsOf t 0 done).length by rw [secsOf_length]; exact htp)
    have h2 := h.at_ (half * q) hlt
    rw [if_pos ⟨Nat.le_refl _, by omega⟩, Nat.sub_self, hx] at h2
    obtain ⟨L, e, h3, rfl⟩ := secsOf_at t done 0 0 x hx
    have := maxT_ge (List.mem_of_getElem? h2)
    rwa [turnB_pack h3 ht h0] at this
/-- Any device with these sectors. -/
theorem VInv.mk' {d : Dev} {q half t : Nat} {done : List (List UInt8)} (hh : half ≤ 1) (ht : t < 4294967296) (h0 : t ≠ 0) (hq : q ≤ 8192) (hlen : d.l.length = 2 * q) (hw : d.waits = []) (hf : total done ≤ q)
    (h64 : ∀ x ∈ d.l, x.length = 64) (h : ∀ i, i < 2 * q → d.l[i]? = if half * q ≤ i ∧ i < half * q + total done then (secsOf t 0 done)[i - half * q]? else some (zb 64)) : VInv d q half t done := by
  have hle : half * q + q ≤ 2 * q := by rcases half_cases hh with rfl | rfl <;> omega
  refine ⟨⟨by rw [hlen]; exact hle, h64, fun i hi => ?_, fun i h1 h2 => ⟨zb 64, ?_, zb_clear8 ht h0, rfl⟩, by rw [hw]; rfl, by simp only [total]; omega, hq⟩, fun i hi => ?_, hlen, hh⟩
  · rw [h (half * q + i) (by omega), if_pos ⟨by omega, by omega⟩, Nat.add_sub_cancel_left]
  · rw [h (half * q + i) (by omega), if_neg (by omega)]
  · rcases half_cases hh with rfl | rfl
    · rw [h _ (by simp; omega), if_neg (by simp; omega)]
    · rw [h _ (by simp; omega), if_neg (by simp; omega)]
/-- A seal: the other half wiped, an image written there, this half wiped. -/
theorem VInv.seal {d : Dev} {q half t : Nat} {done : List (List UInt8)} (h : VInv d q half t done) (ht : t + 1 < 4294967296) (hq : q ≤ 8192) (image : List UInt8) (hf : costN image.length ≤ q) :
    VInv { d with l := flushTo (flushTo (flushTo d.l (wat ((1 - half) * q) (List.replicate q (zb 64)))) (wat ((1 - half) * q) (recSecs (t + 1) 0 image))) (wat (half * q) (List.replicate q (zb 64))), waits := [] } q (1 - half) (t + 1) [image] := by
  have hl := h.len
  have hrl := recSecs_length (t + 1) 0 image
  have hle : half * q + q ≤ 2 * q := by rcases half_cases h.h1 with rfl | rfl <;> omega
  have hle' : (1 - half) * q + q ≤ 2 * q := by rcases half_cases h.h1 with rfl | rfl <;> simp <;> omega
  have r64 : ∀ x ∈ List.replicate q (zb 64), x.length = 64 := fun x hx => by rw [(List.mem_replicate.1 hx).2]; simp
  have s64 : ∀ x ∈ recSecs (t + 1) 0 image, x.length = 64 := fun x hx => by
    obtain ⟨i, _, rfl⟩ := List.mem_map.1 hx
    exact recSec_len _ _ _ _
  obtain ⟨a1, a2⟩ := flushTo_wat (List.replicate q (zb 64)) d.l ((1 - half) * q) (by rw [List.length_replicate, hl]; exact hle')
  have a3 := wat_set64 (xs := List.replicate q (zb 64)) (l := d.l) (b := (1 - half) * q) (by rw [List.length_replicate, hl]; exact hle') r64 h.j.l64
  obtain ⟨b1, b2⟩ := flushTo_wat (recSecs (t + 1) 0 image) (flushTo d.l (wat ((1 - half) * q) (List.replicate q (zb 64)))) ((1 - half) * q) (by rw [a1, hrl, hl]; omega)
  have b3 := wat_set64 (xs := recSecs (t + 1) 0 image) (b := (1 - half) * q) (by rw [a1, hrl, hl]; omega) s64 a3
  obtain ⟨c1, c2⟩ := flushTo_wat (List.replicate q (zb 64)) (flushTo (flushTo d.l (wat ((1 - half) * q) (List.replicate q (zb 64)))) (wat ((1 - half) * q) (recSecs (t + 1) 0 image))) (half * q) (by rw [b1, a1, List.length_replicate, hl]; exact hle)
  have c3 := wat_set64 (xs := List.replicate q (zb 64)) (b := half * q) (by rw [b1, a1, List.length_replicate, hl]; exact hle) r64 b3
  have htot : total [image] = costN image.length := by simp [total]
  have hsec : secsOf (t + 1) 0 [image] = recSecs (t + 1) 0 image := by simp [secsOf]
  refine VInv.mk' (by omega) ht (by omega) hq (by show (flushTo _ _).length = _; rw [c1, b1, a1, hl]) rfl (by rw [htot]; exact hf) c3 (fun i hi => ?_)
  show (flushTo _ _)[i]? = _
  rw [c2, b2, a2, htot, hsec, hrl, List.length_replicate]
  clear c2 b2 a2 a1 a3 b1 b3 c1 c3 htot hsec s64 r64 hle hle'
  generalize costN image.length = cc at hf hrl ⊢
  rcases half_cases h.h1 with rfl | rfl
  · simp only [Nat.zero_mul, Nat.zero_add, Nat.zero_le, true_and, Nat.sub_zero, Nat.one_mul] at *
    by_cases h1 : i < q
    · rw [if_pos h1, if_neg (by omega), List.getElem?_replicate, if_pos h1]
    · rw [if_neg h1]
      by_cases h2 : i < q + cc
      · rw [if_pos ⟨by omega, h2⟩, if_pos ⟨by omega, h2⟩]
      · rw [if_neg (by omega), if_pos ⟨by omega, by omega⟩, List.getElem?_replicate, if_pos (by omega), if_neg (by omega)]
  · simp only [Nat.sub_self, Nat.zero_mul, Nat.zero_add, Nat.zero_le, true_and, Nat.sub_zero, Nat.one_mul] at *
    by_cases h1 : q ≤ i ∧ i < q + q
    · rw [if_pos h1, if_neg (by omega), List.getElem?_replicate, if_pos (by omega)]
    · rw [if_neg h1]
      by_cases h2 : i < cc
      · rw [if_pos h2, if_pos h2]
      · rw [if_neg h2, if_neg h2, if_pos (by omega), List.getElem?_replicate, if_pos (by omega)]
end Go.Proofs.Ytjhkhdockiocgaa
