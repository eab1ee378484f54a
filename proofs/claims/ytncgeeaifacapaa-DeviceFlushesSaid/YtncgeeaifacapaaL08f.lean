/- The law DeviceFlushes, its walk. -/
import Derived.Test.YtncgeeaifacapaaL08fp
import Derived.Test.YtncgeeaifacapaaRow
namespace Go.Proofs.Ytncgeeaifacapaa
open Go.RowKit Go.Cat

theorem convz (w : World) (v : Value) (l : List UInt8) (h : RBz w v l) : (convert 26 9 v).run Try.prog w = .ok (.string ⟨l.toArray⟩) w := run_string_z w _ _ 5 Try.underlying26 Try.underlying5 Try.underlying9 v l h
theorem ext_sec (I : List UInt8) (a : Nat) : (ByteArray.extract ⟨I.toArray⟩ a (a + 64)).toList = (I.drop a).take 64 := by
  have e : (ByteArray.extract ⟨I.toArray⟩ a (a + 64)) = ⟨((I.drop a).take 64).toArray⟩ := by
    apply ByteArray.ext
    simp [show a + 64 - a = 64 by omega]
  rw [e]; simp

set_option maxRecDepth 100000 in
set_option maxHeartbeats 1000000 in
theorem df_long (v0 v1 : Value) (keep : Int) (w : World) (A B : List (List UInt8)) (h0 : RBs w v0 A) (h1 : RBs w v1 B) (hl : 20 < A.length ∨ 20 < B.length) :
    Calls Try.prog 7 #[v0, v1, .int .u64 keep] w fun e w' => e = .returned (.bool true) ∧ Chg (fun _ => False) w w' := by
  obtain ⟨a0, c0, rfl⟩ := h0.form
  obtain ⟨a1, c1, rfl⟩ := h1.form
  clear h0 h1
  rcases Nat.lt_or_ge 20 A.length with h | h
  · have g0 : (20 : Int) < A.length := by omega
    clear hl h
    go_enter Try.func7, Try.ntmps7
    go_wp2_with fail
    refine (lives08 w).mono ?_
    rintro e w1 ⟨rfl, k1⟩
    go_wp2_with fail
    refine (lives08 w1).mono ?_
    rintro e w2 ⟨rfl, k2⟩
    go_wp2_with fail
    go_ret
    exact ⟨rfl, k1.trans k2⟩
  · have g0 : ¬ (20 : Int) < A.length := by omega
    have g1 : (20 : Int) < B.length := by omega
    clear hl h
    go_enter Try.func7, Try.ntmps7
    go_wp2_with fail
    refine (lives08 w).mono ?_
    rintro e w1 ⟨rfl, k1⟩
    go_wp2_with fail
    refine (lives08 w1).mono ?_
    rintro e w2 ⟨rfl, k2⟩
    go_wp2_with fail
    go_ret
    exact ⟨rfl, k1.trans k2⟩

set_option maxRecDepth 100000 in
set_option maxHeartbeats 1000000 in
theorem df_main (v0 v1 : Value) (keep : Nat) (w : World) (A B : List (List UInt8)) (h0 : RBs w v0 A) (h1 : RBs w v1 B) (hA : A.length ≤ 20) (hB : B.length ≤ 20) :
    Calls Try.prog 7 #[v0, v1, .int .u64 keep] w fun e w' => e = .returned (.bool true) ∧ Chg (fun _ => False) w w' := by
  obtain ⟨a0, c0, rfl⟩ := h0.form
  obtain ⟨a1, c1, rfl⟩ := h1.form
  obtain ⟨na, hna⟩ : ∃ n, n = A.length := ⟨_, rfl⟩
  obtain ⟨nb, hnb⟩ : ∃ n, n = B.length := ⟨_, rfl⟩
  rw [← hna] at h0 hA ⊢
  rw [← hnb] at h1 hB ⊢
  have HNA := Lib.hid hna
  have HNB := Lib.hid hnb
  have HA := Lib.hid h0
  have HB := Lib.hid h1
  have g0 : ¬ (20 : Int) < na := by omega
  have g1 : ¬ (20 : Int) < nb := by omega
  clear hna hnb h0 h1
  go_enter Try.func7, Try.ntmps7
  go_wp2_with fail
  refine (lives08 w).mono ?_
  rintro e w1 ⟨rfl, k1⟩
  go_wp2_with fail
  refine (up_new w w1 50 (by omega) (by omega) k1).mono ?_
  rintro e w2 ⟨D, rfl, h2⟩
  have H2 := Lib.hid h2
  clear h2 k1
  go_wp2_with fail
  go_loopw [9, 10, 35] (fun _ _ i wr => ∃ k : Nat, k ≤ na ∧ i = .int .i64 k ∧ Hid (DevUp w wr D ⟨List.replicate 50 (zb 64), waitsOf 0 (A.take k), false, 0, 0, 0, 0⟩) ∧ Hid (∀ l ∈ A.take k, l.length ≤ 64)) (fun _ _ i _ => na - (intOf i).toNat)
  case atStart =>
    exact ⟨0, by omega, rfl, H2, by simp [Hid]⟩
  case round =>
    obtain ⟨k, hk, rfl, hup, hle⟩ := hrel
    by_cases hlt : k < na
    · obtain ⟨l, hl⟩ : ∃ l, A[k]? = some l := ⟨_, List.getElem?_eq_getElem (by rw [← HNA.out]; exact hlt)⟩
      obtain ⟨g, o, u, uc, ha, hcell, hrb⟩ := (HA.out.same hup.out.1).at_ k l hl
      subst ha
      have HLK := Lib.hid hl
      have HRB := Lib.hid hrb
      clear hl hrb
      by_cases h64 : 64 < l.length
      · have g64 : (64 : Int) < l.length := by omega
        clear h64
        go_wp2_with fail
        go_ret
        exact ⟨rfl, hup.out.1⟩
      · have g64 : ¬ (64 : Int) < l.length := by omega
        have hwr : Calls Try.prog 29 #[.pointer (some ⟨D, 0, none⟩), .int .i64 (k : Int), .slice u l.length uc] wr fun e w' => e = .returned (.int .i64 0) ∧ DevUp w w' D ⟨List.replicate 50 (zb 64), waitsOf 0 (A.take (k + 1)), false, 0, 0, 0, 0⟩ := by
          have := up_writez w wr D _ k _ l hup.out HRB.out rfl rfl (by simp; omega) (by omega) (by rw [waitsOf_length]; have := List.length_take_le k A; omega)
          have e := waitsOf_take _ 0 _ _ HLK.out
          (try simp only [Nat.zero_add] at e)
          rw [e]
          first | exact this | (rw [show ((25 + k : Nat) : Int) = 25 + (k : Int) by omega] at this; exact this)
        have HWR := Lib.hid hwr
        have hle' : Hid (∀ x ∈ A.take (k + 1), x.length ≤ 64) := by
          show ∀ x ∈ _, _
          rw [List.take_add_one, HLK.out]
          intro x hx
          rcases List.mem_append.1 hx with hx | hx
          · exact hle.out x hx
          · obtain rfl : x = l := by simpa using hx
            omega
        clear hwr h64 hup
        go_wp2_with fail
        refine HWR.out.mono ?_
        rintro e w' ⟨rfl, hup'⟩
        have HUP := Lib.hid hup'
        clear hup'
        go_wp2_with fail
        exact ⟨⟨k + 1, by omega, rfl, HUP, hle'⟩, by simp only [intOf]; omega⟩
    · obtain rfl : na = k := by omega
      rw [HNA.out, List.take_length] at hup hle
      go_wp2_with fail
      refine (up_flush w wr D _ hup.out rfl (by have := HNA.out; simp [waitsOf_length]; omega)).mono ?_
      rintro e w3 ⟨rfl, h3⟩
      have H3 := Lib.hid h3
      clear h3 hup
      go_wp2_with fail
      have hA64 := hle
      clear hle
      have h50 := (flushTo_ok (waitsOf 0 A) (List.replicate 50 (zb 64)) (waitsOf_ok A 0 hA64.out) (fun x hx => by rw [(List.mem_replicate.1 hx).2]; simp)).1
      have hfl64 := (flushTo_ok (waitsOf 0 A) (List.replicate 50 (zb 64)) (waitsOf_ok A 0 hA64.out) (fun x hx => by rw [(List.mem_replicate.1 hx).2]; simp)).2
      rw [List.length_replicate] at h50
      have HFL := Lib.hid hfl64
      clear hfl64
      have H50 := Lib.hid h50
      clear h50
      go_loopw [11, 12, 58] (fun _ _ i wr => ∃ k : Nat, k ≤ nb ∧ i = .int .i64 k ∧ Hid (DevUp w wr D ⟨flushTo (List.replicate 50 (zb 64)) (waitsOf 0 A), waitsOf 25 (B.take k), false, 0, 0, 0, 0⟩) ∧ Hid (∀ l ∈ B.take k, l.length ≤ 64)) (fun _ _ i _ => nb - (intOf i).toNat)
      case atStart =>
        exact ⟨0, by omega, rfl, H3, by simp [Hid]⟩
      case round =>
        obtain ⟨k, hk, rfl, hup, hle⟩ := hrel
        by_cases hlt : k < nb
        · obtain ⟨l, hl⟩ : ∃ l, B[k]? = some l := ⟨_, List.getElem?_eq_getElem (by rw [← HNB.out]; exact hlt)⟩
          obtain ⟨g, o, u, uc, ha, hcell, hrb⟩ := (HB.out.same hup.out.1).at_ k l hl
          subst ha
          have HLK := Lib.hid hl
          have HRB := Lib.hid hrb
          clear hl hrb
          by_cases h64 : 64 < l.length
          · have g64 : (64 : Int) < l.length := by omega
            clear h64
            go_wp2_with fail
            go_ret
            exact ⟨rfl, hup.out.1⟩
          · have g64 : ¬ (64 : Int) < l.length := by omega
            have hwr : Calls Try.prog 29 #[.pointer (some ⟨D, 0, none⟩), .int .i64 (25 + (k : Int)), .slice u l.length uc] wr fun e w' => e = .returned (.int .i64 0) ∧ DevUp w w' D ⟨flushTo (List.replicate 50 (zb 64)) (waitsOf 0 A), waitsOf 25 (B.take (k + 1)), false, 0, 0, 0, 0⟩ := by
              have := up_writez w wr D _ (25 + k) _ l hup.out HRB.out rfl rfl (by rw [H50.out]; omega) (by omega) (by rw [waitsOf_length]; have := List.length_take_le k B; omega)
              have e := waitsOf_take _ 25 _ _ HLK.out
              (try simp only [Nat.zero_add] at e)
              rw [e]
              first | exact this | (rw [show ((25 + k : Nat) : Int) = 25 + (k : Int) by omega] at this; exact this)
            have HWR := Lib.hid hwr
            have hle' : Hid (∀ x ∈ B.take (k + 1), x.length ≤ 64) := by
              show ∀ x ∈ _, _
              rw [List.take_add_one, HLK.out]
              intro x hx
              rcases List.mem_append.1 hx with hx | hx
              · exact hle.out x hx
              · obtain rfl : x = l := by simpa using hx
                omega
            clear hwr h64 hup
            go_wp2_with fail
            refine HWR.out.mono ?_
            rintro e w' ⟨rfl, hup'⟩
            have HUP := Lib.hid hup'
            clear hup'
            go_wp2_with fail
            exact ⟨⟨k + 1, by omega, rfl, HUP, hle'⟩, by simp only [intOf]; omega⟩
        · obtain rfl : nb = k := by omega
          rw [HNB.out, List.take_length] at hup hle
          go_wp2_with fail
          refine (up_crash w wr D _ keep (-1) 0 hup.out (by have := HNB.out; simp [waitsOf_length]; omega)).mono ?_
          rintro e w4 ⟨rfl, h4⟩
          have H4 := Lib.hid h4
          clear h4 hup
          go_wp2_with fail
          have hB64 := hle
          clear hle
          obtain ⟨L, hL⟩ : ∃ L, L = crashTo keep (-1) 0 (flushTo (List.replicate 50 (zb 64)) (waitsOf 0 A)) (waitsOf 25 B) (waitsOf 25 B).length := ⟨_, rfl⟩
          have h4' : DevUp w w4 D ⟨L, [], true, 0, 0, 0, 0⟩ := by rw [hL]; exact H4.out
          obtain ⟨_, _, _, hdi, _⟩ := id h4'
          have hL64 := hdi.len
          refine (up_image w w4 D _ h4').mono ?_
          rintro e w5 ⟨v5, rfl, h5, d5, _⟩
          have hd5 := d5.1
          have hat : ∀ k, k < 50 → L[k]? = some (if k < na then pad (A.getD k []) else if (25 ≤ k ∧ k < 25 + nb) ∧ keep.testBit (k - 25) = true then pad (B.getD (k - 25) []) else pad []) := fun k hk => by
            have e1 := crashed_at keep (flushTo (List.replicate 50 (zb 64)) (waitsOf 0 A)) B 25 k (by rw [H50.out, ← HNB.out]; omega) (by rw [← HNB.out]; exact hB) hB64.out HFL.out B.length (Nat.le_refl _)
            have e2 := flushed_at A (List.replicate 50 (zb 64)) 0 k (by rw [List.length_replicate, ← HNA.out]; omega)
            rw [hL, waitsOf_length, e1, e2]
            rw [← HNA.out, ← HNB.out]
            simp only [Nat.zero_le, true_and, Nat.zero_add, Nat.sub_zero, List.getElem?_replicate]
            have hz : zb 64 = pad [] := rfl
            by_cases h1 : k < na
            · rw [if_neg (by omega), if_pos h1, if_pos h1, List.getD_eq_getElem?_getD, List.getElem?_eq_getElem (by rw [← HNA.out]; exact h1)]
              rfl
            · rw [if_neg h1, if_pos hk, if_neg h1]
              by_cases h2 : (25 ≤ k ∧ k < 25 + nb) ∧ keep.testBit (k - 25) = true
              · rw [if_pos h2, if_pos h2, List.getD_eq_getElem?_getD, List.getElem?_eq_getElem (by rw [← HNB.out]; omega)]
                rfl
              · rw [if_neg h2, if_neg h2, hz]
          obtain ⟨I, hI⟩ : ∃ I, I = L.flatten := ⟨_, rfl⟩
          have h5' : OB w5 v5 I := by rw [hI]; exact h5
          have hIl : I.length = 3200 := by
            have h50' : L.length = 50 := by
              rw [hL, (crashTo_ok keep (-1) 0 _ (waitsOf 25 B) (fun x hx => by
                obtain ⟨j, hj⟩ := List.getElem?_of_mem hx
                have hjl := (List.getElem?_eq_some_iff.1 hj).1
                rw [waitsOf_length] at hjl
                rw [waitsOf_at B 25 j _ (List.getElem?_eq_getElem hjl)] at hj
                cases hj
                exact ⟨pad_length (hB64.out _ (List.getElem_mem _)), by rw [H50.out]; have := HNB.out; simp only; omega⟩) HFL.out _).1, H50.out]
            rw [hI, ← bs_length, ← bs_flatten, rows_len L (bs64 hL64), h50']
          obtain ⟨a5, c5, rfl⟩ := h5'.form
          have hcv := convb w5 _ _ h5'.rb
          have HAT := Lib.hid hat
          have HL64 := Lib.hid hL64
          have HI := Lib.hid hI
          have HIL := Lib.hid hIl
          have HA5 : Hid (RBs w5 (.slice a0 na c0) A) := HA.out.same hd5
          have HB5 : Hid (RBs w5 (.slice a1 nb c1) B) := HB.out.same hd5
          clear hat hL64 hI hIl h5 h5' hdi h4' hL H4 d5
          go_wp2_with fail
          clear hcv
          go_loopw [14, 15, 84] (fun _ _ i wr => ∃ k : Nat, k ≤ 50 ∧ i = .int .i64 k ∧ wr = w5) (fun _ _ i _ => 50 - (intOf i).toNat)
          case atStart =>
            exact ⟨0, by omega, rfl, rfl⟩
          case round =>
            obtain ⟨k, hk, rfl, rfl⟩ := hrel
            by_cases hlt : k < 50
            · have hx := HAT.out k hlt
              have hsec := flatten_at L HL64.out k _ hx
              rw [← HI.out] at hsec
              have b1 : 64 * (k : Int) + 64 ≤ I.length := by rw [HIL.out]; omega
              by_cases hka : k < na
              · obtain ⟨l, hl⟩ : ∃ l, A[k]? = some l := ⟨_, List.getElem?_eq_getElem (by rw [← HNA.out]; exact hka)⟩
                obtain ⟨g, o, u, uc, ha, hcell, hrb⟩ := HA5.out.at_ k l hl
                subst ha
                have hcz := convz _ _ _ hrb
                have hl64 := hA64.out l (List.mem_of_getElem? hl)
                rw [if_pos hka, List.getD_eq_getElem?_getD, hl, Option.getD_some] at hsec
                rw [← ext_sec] at hsec
                have HSEC := Lib.hid hsec
                clear hx hsec hrb hl
                go_wp2_with fail
                refine (full_any [] _ (by simp)).mono ?_
                rintro e w' ⟨rfl, rfl⟩
                go_wp2_with fail
                refine (full_any l _ hl64).mono ?_
                rintro e w' ⟨rfl, rfl⟩
                have hext := HSEC.out
                go_wp2_with fail
                exact ⟨⟨k + 1, by omega, rfl, trivial⟩, by simp only [intOf]; omega⟩
              · rw [if_neg hka] at hsec
                have i0 : ¬ k < na := hka
                rcases Nat.lt_or_ge k 25 with h25 | h25
                · rw [if_neg (by omega), ← ext_sec] at hsec
                  have HSEC := Lib.hid hsec
                  have i1 : ¬ (25 : Int) ≤ k := by omega
                  clear hx hsec
                  go_wp2_with fail
                  refine (full_any [] _ (by simp)).mono ?_
                  rintro e w' ⟨rfl, rfl⟩
                  have hext := HSEC.out
                  go_wp2_with fail
                  exact ⟨⟨k + 1, by omega, rfl, trivial⟩, by simp only [intOf]; omega⟩
                rcases Nat.lt_or_ge k (25 + nb) with hkb | hkb
                case inr =>
                  rw [if_neg (by omega), ← ext_sec] at hsec
                  have HSEC := Lib.hid hsec
                  have i1 : (25 : Int) ≤ k := by omega
                  have i2 : ¬ (k : Int) < 25 + nb := by omega
                  clear hx hsec
                  go_wp2_with fail
                  refine (full_any [] _ (by simp)).mono ?_
                  rintro e w' ⟨rfl, rfl⟩
                  have hext := HSEC.out
                  go_wp2_with fail
                  exact ⟨⟨k + 1, by omega, rfl, trivial⟩, by simp only [intOf]; omega⟩
                have hbt := bits_test keep (k - 25)
                have i1 : (25 : Int) ≤ k := by omega
                have i2 : (k : Int) < 25 + nb := by omega
                have i3 : ((k : Int) - 25).toNat = k - 25 := by omega
                cases hbit : keep.testBit (k - 25)
                · rw [hbit] at hsec hbt
                  simp only [Bool.false_eq_true, and_false, if_false] at hsec hbt
                  rw [← ext_sec] at hsec
                  have HSEC := Lib.hid hsec
                  have HBIT := Lib.hid hbit
                  clear hx hsec hbit
                  go_wp2_with fail
                  refine (full_any [] _ (by simp)).mono ?_
                  rintro e w' ⟨rfl, rfl⟩
                  have hext := HSEC.out
                  go_wp2_with fail
                  exact ⟨⟨k + 1, by omega, rfl, trivial⟩, by simp only [intOf]; omega⟩
                · obtain ⟨l, hl⟩ : ∃ l, B[k - 25]? = some l := ⟨_, List.getElem?_eq_getElem (by rw [← HNB.out]; omega)⟩
                  obtain ⟨g, o, u, uc, ha, hcell, hrb⟩ := HB5.out.at_ (k - 25) l hl
                  subst ha
                  have hcz := convz _ _ _ hrb
                  have hl64 := hB64.out l (List.mem_of_getElem? hl)
                  rw [hbit] at hsec hbt
                  simp only [if_true] at hbt
                  rw [if_pos ⟨⟨h25, hkb⟩, rfl⟩, List.getD_eq_getElem?_getD, hl, Option.getD_some, ← ext_sec] at hsec
                  have HSEC := Lib.hid hsec
                  have HBIT := Lib.hid hbit
                  have i4 : (0 : Int) ≤ (k : Int) - 25 := by omega
                  have i5 : (k : Int) - 25 < nb := by omega
                  clear hx hsec hbit hrb hl
                  go_wp2_with fail
                  refine (full_any [] _ (by simp)).mono ?_
                  rintro e w' ⟨rfl, rfl⟩
                  go_wp2_with fail
                  refine (full_any l _ hl64).mono ?_
                  rintro e w' ⟨rfl, rfl⟩
                  have hext := HSEC.out
                  go_wp2_with fail
                  exact ⟨⟨k + 1, by omega, rfl, trivial⟩, by simp only [intOf]; omega⟩
            · obtain rfl : k = 50 := by omega
              go_wp2_with fail
              go_ret
              exact ⟨rfl, hd5⟩

theorem flushes_any (v0 v1 : Value) (keep : Int) (w : World) (A B : List (List UInt8)) (h0 : RBs w v0 A) (h1 : RBs w v1 B) (hk : 0 ≤ keep) :
    Calls Try.prog 7 #[v0, v1, .int .u64 keep] w fun e w' => e = .returned (.bool true) ∧ Chg (fun _ => False) w w' := by
  obtain ⟨q, rfl⟩ := Int.eq_ofNat_of_zero_le hk
  by_cases hl : 20 < A.length ∨ 20 < B.length
  · exact df_long v0 v1 _ w A B h0 h1 hl
  · exact df_main v0 v1 q w A B h0 h1 (by omega) (by omega)
end Go.Proofs.Ytncgeeaifacapaa
