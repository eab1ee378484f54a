/- Contracts of octet.Reader, whatever its state. -/
import Derived.Test.YtjhkhdockiocgaaReader2
import Derived.Test.YtjhkhdockiocgaaBe
namespace Go.Proofs.Ytjhkhdockiocgaa
open Go.RowKit Go.Cat

abbrev RS := List UInt8 × Int
def rdNum (n : Nat) (st : RS) : Nat × RS := if st.2 ≠ 0 then (0, st) else if st.1.length < n then (0, ([], 4)) else (ofBe (st.1.take n), (st.1.drop n, 0))
def rdRaw (n : Nat) (st : RS) : List UInt8 × RS := if st.2 ≠ 0 then ([], st) else if st.1.length < n then ([], ([], 4)) else (st.1.take n, (st.1.drop n, 0))
def rdInt (st : RS) : Int × RS := (wrap64 (rdNum 8 st).1, (rdNum 8 st).2)
def rdCount (top : Int) (st : RS) : Nat × RS := if ((rdNum 2 st).1 : Int) ≤ max top 0 then rdNum 2 st else (0, ([], 12))
def rdText (top : Int) (st : RS) : List UInt8 × RS := rdRaw (rdCount top st).1 (rdCount top st).2
theorem rdNum_len (n : Nat) (st : RS) : (rdNum n st).2.1.length ≤ st.1.length := by
  unfold rdNum; repeat' split
  all_goals simp
theorem rdRaw_len (n : Nat) (st : RS) : (rdRaw n st).2.1.length ≤ st.1.length := by
  unfold rdRaw; repeat' split
  all_goals simp
theorem rdInt_len (st : RS) : (rdInt st).2.1.length ≤ st.1.length := rdNum_len 8 st
theorem rdCount_len (top : Int) (st : RS) : (rdCount top st).2.1.length ≤ st.1.length := by
  unfold rdCount; split
  · exact rdNum_len 2 st
  · simp
theorem rdText_len (top : Int) (st : RS) : (rdText top st).2.1.length ≤ st.1.length := Nat.le_trans (rdRaw_len _ _) (rdCount_len _ _)
theorem rdNum_lt (n : Nat) (st : RS) : (rdNum n st).1 < 256 ^ n := by
  unfold rdNum; repeat' split
  · exact Nat.pow_pos (by decide)
  · exact Nat.pow_pos (by decide)
  · have h1 := ofBe_lt (st.1.take n)
    rwa [show (st.1.take n).length = n by simp; omega] at h1
theorem rdCount_le (top : Int) (st : RS) : ((rdCount top st).1 : Int) ≤ max top 0 := by
  unfold rdCount; split
  · assumption
  · simp only; omega
theorem rdNum_err (n : Nat) (l : List UInt8) (e : Int) (he : e ≠ 0) : rdNum n (l, e) = (0, (l, e)) := by unfold rdNum; simp [he]
theorem rdRaw_err (n : Nat) (l : List UInt8) (e : Int) (he : e ≠ 0) : rdRaw n (l, e) = ([], (l, e)) := by unfold rdRaw; simp [he]
theorem rdNum_short (n : Nat) (l : List UInt8) (hn : l.length < n) : rdNum n (l, 0) = (0, ([], 4)) := by unfold rdNum; simp [hn]
theorem rdRaw_short (n : Nat) (l : List UInt8) (hn : l.length < n) : rdRaw n (l, 0) = ([], ([], 4)) := by unfold rdRaw; simp [hn]
theorem rdNum_ok (n : Nat) (l : List UInt8) (hn : n ≤ l.length) : rdNum n (l, 0) = (ofBe (l.take n), (l.drop n, 0)) := by unfold rdNum; simp [show ¬ l.length < n by omega]
theorem rdRaw_ok (n : Nat) (l : List UInt8) (hn : n ≤ l.length) : rdRaw n (l, 0) = (l.take n, (l.drop n, 0)) := by unfold rdRaw; simp [show ¬ l.length < n by omega]

theorem rnum_any (w : World) (S : Nat → Prop) (b : Nat) (st : RS) (n : Nat) (h : ReaderAt w S b st.1 st.2) (hw : n = 1 ∨ n = 2 ∨ n = 4 ∨ n = 8) (hl : st.1.length ≤ 140737488355328) :
    Calls Try.prog 70 #[.pointer (some ⟨b, 0, none⟩), .int .i64 n] w fun e w' => e = .returned (.int .u64 (rdNum n st).1) ∧ ReaderAt w' S b (rdNum n st).2.1 (rdNum n st).2.2 ∧ Chg (fun k => k = b) w w' := by
  obtain ⟨l, x⟩ := st
  simp only at h hl
  by_cases hx : x = 0
  · subst hx
    by_cases hn : l.length < n
    · rw [rdNum_short n l hn]
      exact rnum_short w S b l n h hw hn
    · rw [rdNum_ok n l (by omega)]
      exact rnum_ok w S b l n h hw (by omega) hl
  · rw [rdNum_err n l x hx]
    refine (rnum_late w S b l n x h hx hw).mono ?_
    rintro e w' ⟨rfl, rfl⟩
    exact ⟨rfl, h, Chg.refl _ _⟩
theorem rraw_any (w : World) (S : Nat → Prop) (b : Nat) (st : RS) (n : Nat) (h : ReaderAt w S b st.1 st.2) (hl : st.1.length ≤ 140737488355328) :
    Calls Try.prog 107 #[.pointer (some ⟨b, 0, none⟩), .int .i64 n] w fun e w' => ∃ v, e = .returned v ∧ OB w' v (rdRaw n st).1 ∧ (∀ k, v.ownBlock = some k → w.heap.size ≤ k) ∧ ReaderAt w' S b (rdRaw n st).2.1 (rdRaw n st).2.2 ∧ Chg (fun k => k = b) w w' := by
  obtain ⟨l, x⟩ := st
  simp only at h hl
  by_cases hx : x = 0
  · subst hx
    by_cases hn : l.length < n
    · rw [rdRaw_short n l hn]
      refine (rraw_short w S b l n h hn).mono ?_
      rintro e w' ⟨rfl, h1, c1⟩
      exact ⟨_, rfl, Owns.nil w' 1, by simp [Value.ownBlock], h1, c1⟩
    · rw [rdRaw_ok n l (by omega)]
      refine (rraw_ok w S b l n h (by omega) hl).mono ?_
      rintro e w' ⟨v, rfl, h1, h2, h3, h4⟩
      exact ⟨v, rfl, h1, h2, h3, h4⟩
  · rw [rdRaw_err n l x hx]
    refine (rraw_late w S b l n x h hx).mono ?_
    rintro e w' ⟨rfl, rfl⟩
    exact ⟨_, rfl, Owns.nil _ 1, by simp [Value.ownBlock], h, Chg.refl _ _⟩

set_option maxRecDepth 100000 in
theorem rint_any (w : World) (S : Nat → Prop) (b : Nat) (st : RS) (h : ReaderAt w S b st.1 st.2) (hl : st.1.length ≤ 140737488355328) :
    Calls Try.prog 128 #[.pointer (some ⟨b, 0, none⟩)] w fun e w' => e = .returned (.int .i64 (rdInt st).1) ∧ ReaderAt w' S b (rdInt st).2.1 (rdInt st).2.2 ∧ Chg (fun k => k = b) w w' := by
  have H := Lib.hid h
  clear h
  unfold rdInt
  go_enter Try.func128, Try.ntmps128
  go_wp2_with fail
  refine (rnum_any w S b st 8 H.out (by omega) hl).mono ?_
  rintro e w2 ⟨rfl, hr, hc⟩
  obtain ⟨x, hx⟩ : ∃ x, x = (rdNum 8 st).1 := ⟨_, rfl⟩
  rw [← hx]
  have HX := Lib.hid hx
  have HR := Lib.hid hr
  clear hr hx
  go_wp2_with fail
  go_ret
  rw [← HX.out]
  exact ⟨rfl, HR.out, hc⟩

set_option maxRecDepth 100000 in
theorem rcount_any (w : World) (S : Nat → Prop) (b : Nat) (st : RS) (top : Int) (h : ReaderAt w S b st.1 st.2) (hl : st.1.length ≤ 140737488355328) :
    Calls Try.prog 138 #[.pointer (some ⟨b, 0, none⟩), .int .i64 top] w fun e w' => e = .returned (.int .i64 (rdCount top st).1) ∧ ReaderAt w' S b (rdCount top st).2.1 (rdCount top st).2.2 ∧ Chg (fun k => k = b) w w' := by
  have hlt := rdNum_lt 2 st
  have hz : (rdNum 2 st).1 ≠ 0 → (rdNum 2 st).2.2 = 0 := by
    unfold rdNum; repeat' split
    all_goals simp
  have N := Lib.hid (rnum_any w S b st 2 h (by omega) hl)
  unfold rdCount
  obtain ⟨⟨x, q⟩, hx⟩ : ∃ r, r = rdNum 2 st := ⟨_, rfl⟩
  rw [← hx] at N hlt hz ⊢
  simp only at N hlt hz ⊢
  clear hx h
  have hwr : IntKind.i64.wrap (x : Int) = x := by rw [IntKind.wrap_i64]; omega
  obtain ⟨t, htt⟩ : ∃ t, t = if top < 0 then (0 : Int) else top := ⟨_, rfl⟩
  have hmt : max top 0 = t := by rw [htt]; split <;> omega
  have htt' := htt.symm
  rw [hmt]
  clear htt hmt
  by_cases hc : (x : Int) ≤ t
  · rw [if_pos hc]
    have hle : ¬ t < (x : Int) := by omega
    clear hz hlt
    go_enter Try.func138, Try.ntmps138
    go_wp2_with fail
    refine N.out.mono ?_
    rintro e w2 ⟨rfl, hr, hc⟩
    have HR := Lib.hid hr
    clear hr
    go_wp2_with fail
    go_ret
    exact ⟨rfl, HR.out, hc⟩
  · rw [if_neg hc]
    have hle : t < (x : Int) := by omega
    have ht0 : 0 ≤ t := by rw [← htt']; split <;> omega
    have hq := Lib.hid (hz (by omega))
    clear hz hlt ht0
    go_enter Try.func138, Try.ntmps138
    go_wp2_with fail
    refine N.out.mono ?_
    rintro e w2 ⟨rfl, hr, hc⟩
    rw [hq.out] at hr
    have HR := Lib.hid hr
    clear hr
    go_wp2_with fail
    refine (rfail_first w2 S b _ 12 HR.out).mono ?_
    rintro e w3 ⟨rfl, hr3, hc3⟩
    have HR3 := Lib.hid hr3
    clear hr3
    go_wp2_with fail
    go_ret
    exact ⟨rfl, HR3.out, hc.trans hc3⟩

set_option maxRecDepth 100000 in
theorem rtext_any (w : World) (S : Nat → Prop) (b : Nat) (st : RS) (top : Int) (h : ReaderAt w S b st.1 st.2) (hl : st.1.length ≤ 140737488355328) :
    Calls Try.prog 124 #[.pointer (some ⟨b, 0, none⟩), .int .i64 top] w fun e w' => e = .returned (.string ⟨(rdText top st).1.toArray⟩) ∧ ReaderAt w' S b (rdText top st).2.1 (rdText top st).2.2 ∧ Chg (fun k => k = b) w w' := by
  have C := Lib.hid (rcount_any w S b st top h hl)
  have hl2 := rdCount_len top st
  unfold rdText
  obtain ⟨⟨x, q⟩, hx⟩ : ∃ r, r = rdCount top st := ⟨_, rfl⟩
  rw [← hx] at C hl2 ⊢
  simp only at C hl2 ⊢
  clear h hx
  go_enter Try.func124, Try.ntmps124
  go_wp2_with fail
  refine C.out.mono ?_
  rintro e w1 ⟨rfl, h1, c1⟩
  have H1 := Lib.hid h1
  clear h1
  go_wp2_with fail
  refine (rraw_any w1 S b q x H1.out (by omega)).mono ?_
  rintro e w3 ⟨v, rfl, h3, f3, k3, c3⟩
  obtain ⟨m, hm⟩ : ∃ m, m = (rdRaw x q).1 := ⟨_, rfl⟩
  rw [← hm] at h3
  have HM := Lib.hid hm
  clear hm
  have hcv := convb w3 v _ h3.rb
  have K3 := Lib.hid k3
  obtain ⟨va, vc, rfl⟩ := h3.form
  clear h3 k3 f3
  go_wp2_with fail
  go_ret
  rw [← HM.out]
  exact ⟨rfl, K3.out, c1.trans c3⟩

set_option maxRecDepth 100000 in
theorem rend_any (w : World) (S : Nat → Prop) (b : Nat) (l : List UInt8) (y : Int) (h : ReaderAt w S b l y) :
    Calls Try.prog 72 #[.pointer (some ⟨b, 0, none⟩)] w fun e w' => e = .returned (.int .i64 (if y ≠ 0 then y else if l = [] then 0 else 12)) ∧ w = w' := by
  by_cases hy : y = 0
  · subst hy
    exact rend_ok w S b l h
  · rw [if_pos hy]
    have H := Lib.hid h
    have HY := Lib.hid hy
    clear h hy
    go_enter Try.func72, Try.ntmps72
    go_wp2_with fail
    refine (rleft_late w S b l y H.out HY.out).mono ?_
    rintro e _ ⟨rfl, rfl⟩
    go_wp2_with fail
    refine (rerr_any w S b l y H.out).mono ?_
    rintro e _ ⟨rfl, rfl⟩
    go_wp2_with fail
    go_ret
    exact ⟨rfl, rfl⟩
end Go.Proofs.Ytjhkhdockiocgaa
