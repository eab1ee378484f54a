/- Plain words: what is read of a command's bytes. -/
import Derived.Test.YtjhkhdockiocgaaOf
import Derived.Test.YtjhkhdockiocgaaIts
namespace Go.Proofs.Ytjhkhdockiocgaa
open Go.RowKit Go.Cat

theorem rdNum_zero (n : Nat) (st : RS) (h : (rdNum n st).2.2 = 0) : st.2 = 0 ∧ n ≤ st.1.length ∧ rdNum n st = (ofBe (st.1.take n), (st.1.drop n, 0)) := by
  obtain ⟨l, e⟩ := st
  by_cases he : e = 0
  · subst he
    by_cases hn : l.length < n
    · rw [rdNum_short n l hn] at h; simp at h
    · exact ⟨rfl, by simpa using hn, rdNum_ok n l (by omega)⟩
  · rw [rdNum_err n l e he] at h; exact absurd h he
theorem rdNum_bytes (n : Nat) (st : RS) (h : (rdNum n st).2.2 = 0) : st.2 = 0 ∧ st.1 = be (rdNum n st).1 n ++ (rdNum n st).2.1 := by
  obtain ⟨h1, h2, h3⟩ := rdNum_zero n st h
  refine ⟨h1, ?_⟩
  rw [h3]
  simp only
  have := be_ofBe (st.1.take n)
  rw [show (st.1.take n).length = n by simp; omega] at this
  rw [this, List.take_append_drop]
theorem rdRaw_zero (n : Nat) (st : RS) (h : (rdRaw n st).2.2 = 0) : st.2 = 0 ∧ st.1 = (rdRaw n st).1 ++ (rdRaw n st).2.1 ∧ (rdRaw n st).1.length = n := by
  obtain ⟨l, e⟩ := st
  by_cases he : e = 0
  · subst he
    by_cases hn : l.length < n
    · rw [rdRaw_short n l hn] at h; simp at h
    · rw [rdRaw_ok n l (by omega)]
      exact ⟨rfl, by simp, by simp; omega⟩
  · rw [rdRaw_err n l e he] at h; exact absurd h he
theorem rdCount_zero (top : Int) (st : RS) (h : (rdCount top st).2.2 = 0) : rdCount top st = rdNum 2 st := by
  unfold rdCount at *
  split at h
  · rename_i hc; rw [if_pos hc]
  · simp at h
theorem rdText_zero (st : RS) (h : (rdText 255 st).2.2 = 0) : st.2 = 0 ∧ st.1 = be (rdText 255 st).1.length 2 ++ (rdText 255 st).1 ++ (rdText 255 st).2.1 ∧ (rdText 255 st).1.length ≤ 255 := by
  unfold rdText at *
  obtain ⟨h1, h2, h3⟩ := rdRaw_zero _ _ h
  have h4 := rdCount_le 255 st
  have e := rdCount_zero 255 st h1
  obtain ⟨h5, h6⟩ := rdNum_bytes 2 st (by rw [← e]; exact h1)
  rw [← e] at h6
  rw [h3]
  refine ⟨h5, ?_, by omega⟩
  rw [List.append_assoc, ← h2]; exact h6
set_option maxRecDepth 100000 in
theorem wrap_back (x : Nat) (hx : x < 18446744073709551616) : wrap64 (x : Int) % 18446744073709551616 = (x : Int) := by
  unfold wrap64
  have h1 : (x : Int) < 18446744073709551616 := by omega
  have h0 : (0 : Int) ≤ x := by omega
  generalize (x : Int) = z at h0 h1 ⊢
  omega
theorem i8_back (n : Nat) (h : n < 256 ^ 8) : i8 (wrap64 n) = be n 8 := by
  unfold i8
  rw [wrap_back n (by have h8 := (show (256 : Nat) ^ 8 = 18446744073709551616 by decide); omega)]
  simp
theorem rdInt_zero (st : RS) (h : (rdInt st).2.2 = 0) : st.2 = 0 ∧ st.1 = i8 (rdInt st).1 ++ (rdInt st).2.1 := by
  obtain ⟨h1, h2⟩ := rdNum_bytes 8 st h
  refine ⟨h1, ?_⟩
  show st.1 = i8 (wrap64 (rdNum 8 st).1) ++ (rdNum 8 st).2.1
  rw [i8_back _ (rdNum_lt 8 st)]
  exact h2
theorem rdPnt_zero (st : RS) (h : (rdPnt st).2.2 = 0) : st.2 = 0 ∧ st.1 = (rdPnt st).1.enc ++ (rdPnt st).2.1 := by
  unfold rdPnt at *
  simp only at h ⊢
  obtain ⟨h1, h2⟩ := rdInt_zero _ h
  obtain ⟨h3, h4⟩ := rdInt_zero _ h1
  refine ⟨h3, ?_⟩
  simp only [Pnt.enc, List.append_assoc]
  rw [← h2]; exact h4
theorem rdRow_zero : ∀ (k : Nat) (acc : List Pnt) (st : RS), (rdRow k acc st).2.2 = 0 → st.2 = 0 ∧ ∃ more, more.length = k ∧ (rdRow k acc st).1 = acc ++ more ∧ st.1 = penc more ++ (rdRow k acc st).2.1
  | 0, acc, st, h => ⟨h, [], rfl, by simp [rdRow], by simp [rdRow, penc]⟩
  | k + 1, acc, st, h => by
    unfold rdRow at h ⊢
    by_cases he : (rdPnt st).2.2 ≠ 0
    · rw [if_pos he] at h; exact absurd h he
    · rw [if_neg he] at h ⊢
      obtain ⟨h1, more, h2, h3, h4⟩ := rdRow_zero k _ _ h
      obtain ⟨h5, h6⟩ := rdPnt_zero st h1
      refine ⟨h5, (rdPnt st).1 :: more, by simp [h2], by rw [h3]; simp, ?_⟩
      simp only [penc, List.flatMap_cons, List.append_assoc]
      have h4' : (rdPnt st).2.1 = List.flatMap Pnt.enc more ++ (rdRow k (acc ++ [(rdPnt st).1]) (rdPnt st).2).2.1 := h4
      rw [← h4']; exact h6
theorem rdPts_zero (st : RS) (h : (rdPts st).2.2 = 0) : st.2 = 0 ∧ st.1 = be (rdPts st).1.length 2 ++ penc (rdPts st).1 ++ (rdPts st).2.1 ∧ (rdPts st).1.length ≤ 255 := by
  unfold rdPts at *
  obtain ⟨h1, more, h2, h3, h4⟩ := rdRow_zero _ _ _ h
  have h5 := rdCount_le 255 st
  rw [h3]
  simp only [List.nil_append]
  have e := rdCount_zero 255 st h1
  obtain ⟨h6, h7⟩ := rdNum_bytes 2 st (by rw [← e]; exact h1)
  rw [← e] at h7
  refine ⟨h6, ?_, by omega⟩
  rw [h2, List.append_assoc, ← h4]; exact h7

/-- Read without an error: the bytes are those of what was read. -/
theorem rdc_zero (k : Int) (pv : Value) (st : RS) (hk : 0 ≤ k ∧ k < 10) (h : (rdc k pv st).2.2.2 = 0) :
    st.2 = 0 ∧ st.1 = encIts ((rdc k pv st).1.its (rdc k pv st).2.1) ++ (rdc k pv st).2.2.1 ∧ (∀ i ∈ (rdc k pv st).1.its (rdc k pv st).2.1, i.short) ∧ (rdc k pv st).1.kind = k ∧
      (∀ va, (rdc k pv st).1.like ((rdc k pv st).1.only va) (rdc k pv st).2.1 ((rdc k pv st).1.onlyPs (rdc k pv st).2.1)) := by
  have hk' : k = 0 ∨ k = 1 ∨ k = 2 ∨ k = 3 ∨ k = 4 ∨ k = 5 ∨ k = 6 ∨ k = 7 ∨ k = 8 ∨ k = 9 := by omega
  have T := rdText_zero
  have I := rdInt_zero
  have P := rdPts_zero
  rcases hk' with rfl | rfl | rfl | rfl | rfl | rfl | rfl | rfl | rfl | rfl <;> simp [rdc] at h ⊢ <;> simp [Cmd.its, Cmd.like, Cmd.only, Cmd.onlyPs, encIts, It.enc, It.short]
  · obtain ⟨a1, a2⟩ := I _ h; obtain ⟨b1, b2⟩ := I _ a1; obtain ⟨c1, c2, c3⟩ := T _ b1
    refine ⟨c1, ?_, c3⟩
    rw [← a2, ← b2, ← List.append_assoc]; exact c2
  · obtain ⟨a1, a2⟩ := I _ h; obtain ⟨b1, b2⟩ := I _ a1; obtain ⟨c1, c2, c3⟩ := T _ b1
    refine ⟨c1, ?_, c3⟩
    rw [← a2, ← b2, ← List.append_assoc]; exact c2
  · obtain ⟨c1, c2, c3⟩ := T _ h
    refine ⟨c1, ?_, c3⟩
    rw [← List.append_assoc]; exact c2
  · obtain ⟨a1, a2, a3⟩ := P _ h; obtain ⟨b1, b2, b3⟩ := T _ a1; obtain ⟨c1, c2, c3⟩ := T _ b1
    refine ⟨c1, ?_, c3, b3, a3⟩
    rw [← List.append_assoc (be _ 2) (penc _), ← a2, ← List.append_assoc (be _ 2) (rdText 255 (rdText 255 st).2).1, ← b2, ← List.append_assoc]; exact c2
  · obtain ⟨a1, a2⟩ := I _ h; obtain ⟨b1, b2⟩ := I _ a1; obtain ⟨d1, d2⟩ := I _ b1; obtain ⟨c1, c2, c3⟩ := T _ d1
    refine ⟨c1, ?_, c3⟩
    rw [← a2, ← b2, ← d2, ← List.append_assoc]; exact c2
  · obtain ⟨a1, a2⟩ := I _ h; obtain ⟨b1, b2⟩ := I _ a1; obtain ⟨d1, d2, d3⟩ := T _ b1; obtain ⟨e1, e2, e3⟩ := T _ d1; obtain ⟨c1, c2, c3⟩ := T _ e1
    refine ⟨c1, ?_, c3, e3, d3⟩
    rw [← a2, ← b2, ← List.append_assoc (be _ 2) (rdText 255 (rdText 255 (rdText 255 st).2).2).1, ← d2, ← List.append_assoc (be _ 2) (rdText 255 (rdText 255 st).2).1, ← e2, ← List.append_assoc]; exact c2
  · obtain ⟨b1, b2, b3⟩ := T _ h; obtain ⟨c1, c2, c3⟩ := T _ b1
    refine ⟨c1, ?_, c3, b3⟩
    rw [← List.append_assoc (be _ 2) (rdText 255 (rdText 255 st).2).1, ← b2, ← List.append_assoc]; exact c2
  · obtain ⟨a1, a2⟩ := I _ h; obtain ⟨d1, d2⟩ := I _ a1; obtain ⟨b1, b2, b3⟩ := T _ d1; obtain ⟨c1, c2, c3⟩ := T _ b1
    refine ⟨c1, ?_, c3, b3⟩
    rw [← a2, ← d2, ← List.append_assoc (be _ 2) (rdText 255 (rdText 255 st).2).1, ← b2, ← List.append_assoc]; exact c2
  · exact I _ h
  · exact I _ h
theorem ofRes_zero (pv : Value) (l : List UInt8) (h : (ofRes pv l).2.2 = 0) :
    (0 ≤ (ofRes pv l).1.kind ∧ (ofRes pv l).1.kind < 10) ∧ l = be (ofRes pv l).1.kind.toNat 1 ++ encIts ((ofRes pv l).1.its (ofRes pv l).2.1) ∧ (∀ i ∈ (ofRes pv l).1.its (ofRes pv l).2.1, i.short) ∧
      (∀ va, (ofRes pv l).1.like ((ofRes pv l).1.only va) (ofRes pv l).2.1 ((ofRes pv l).1.onlyPs (ofRes pv l).2.1)) := by
  unfold ofRes at *
  split at h
  · simp at h
  · rename_i h1
    rw [if_neg h1]
    split at h
    · rename_i h2; exact absurd h h2
    · rename_i h2
      rw [if_neg h2]
      split at h
      · simp at h
      · rename_i h3
        rw [if_neg h3]
        have h2' : (rdc ((rdNum 1 (l, 0)).1 : Nat) pv (rdNum 1 (l, 0)).2).2.2.2 = 0 := Classical.byContradiction h2
        have h3' : (rdc ((rdNum 1 (l, 0)).1 : Nat) pv (rdNum 1 (l, 0)).2).2.2.1 = [] := Classical.byContradiction h3
        have hk : (rdNum 1 (l, 0)).1 < 10 ∨ (rdNum 1 (l, 0)).2.2 ≠ 0 := by
          by_cases hq : (rdNum 1 (l, 0)).2.2 = 0
          · exact .inl (Classical.byContradiction fun hn => h1 ⟨hq, hn⟩)
          · exact .inr hq
        have hk10 : (rdNum 1 (l, 0)).1 < 10 := by
          rcases hk with hk | hk
          · exact hk
          · have : (rdNum 1 (l, 0)).1 = 0 := by
              unfold rdNum at *; repeat' split
              all_goals simp_all
            omega
        obtain ⟨z1, z2, z3, z4, z5⟩ := rdc_zero (((rdNum 1 (l, 0)).1 : Nat) : Int) pv _ (by omega) h2'
        obtain ⟨y1, y2⟩ := rdNum_bytes 1 (l, 0) z1
        simp only
        refine ⟨by rw [z4]; omega, ?_, z3, z5⟩
        rw [z4]
        rw [h3', List.append_nil] at z2
        rw [← z2]
        simpa using y2
end Go.Proofs.Ytjhkhdockiocgaa
