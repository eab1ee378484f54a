/- Contracts of octet: texts. -/
import Derived.Test.YtjhkhdockiocgaaReader
namespace Go.Proofs.Ytjhkhdockiocgaa
open Go.RowKit Go.Cat

/-- []byte(s) as a slice that reads. -/
theorem conv_bytes (w : World) (s : List UInt8) (hs : s.length ≤ 140737488355328) :
    ∃ cv cw, (convert 9 33 (.string ⟨s.toArray⟩)).run Try.prog w = .ok cv cw ∧ RB cw cv s ∧ Chg (fun _ => False) w cw ∧ Fresh w cv := by
  refine ⟨_, _, Lib.run_convert_string_bytes (P := Try.prog) w 9 33 5 ⟨s.toArray⟩ Try.underlying9 Try.underlying33 Try.underlying5, ?_, bytesWorld_chg _ _ _, ?_⟩
  · have := bytesWorld_rb w 5 ⟨s.toArray⟩ (by show s.toArray.size ≤ _; simpa using hs)
    rwa [show (ByteArray.mk s.toArray).data.toList = s from by simp] at this
  · intro k hk
    simp [Value.ownBlock] at hk
    omega

set_option maxRecDepth 100000 in
set_option maxHeartbeats 1000000 in
theorem wtext_ok (s : List UInt8) (w : World) (S : Nat → Prop) (b : Nat) (l : List UInt8) (hw : WriterAt w S b l) (hs : s.length ≤ 65535) (hl : l.length ≤ 1000000000) :
    Calls Try.prog 125 #[.pointer (some ⟨b, 0, none⟩), .string ⟨s.toArray⟩] w fun e w' => e = .returned (.int .i64 0) ∧ WriterAt w' (ext S w w') b (l ++ be s.length 2 ++ s) ∧ Chg S w w' := by
  have HW := Lib.hid hw
  clear hw
  have g1 : ¬ (65535 : Int) < s.length := by omega
  go_enter Try.func125, Try.ntmps125
  go_wp2_with fail
  refine (num_yes s.length 2 w S b l (by omega) (by omega) (by omega) (by simp; omega) HW.out (by omega)).mono ?_
  rintro e w1 ⟨rfl, h1, c1⟩
  have H1 := Lib.hid h1
  obtain ⟨cv, cw, hcx, hcr, hcc, hcf⟩ := conv_bytes w1 s (by omega)
  have HCR := Lib.hid hcr
  clear h1 hcr
  go_wp2_with fail
  have z1 := c1.size
  have z2 := hcc.size
  refine (wraw_any cv cw _ b _ s (H1.out.kept hcc (fun _ _ h => h)) HCR.out (by simp; omega)).mono ?_
  rintro e w2 ⟨rfl, h2, c2⟩
  go_wp2_with fail
  go_ret
  have z3 := c2.size
  simp only [Int.toNat_natCast] at h2
  refine ⟨rfl, h2.mono (fun k hk => ?_), (c1.trans' hcc (fun _ _ h => h.elim)).trans' c2 (fun k hk h => ext_old h hk)⟩
  rcases hk with (hk | hk) | hk
  · exact .inl hk
  · exact .inr ⟨hk.1, by omega⟩
  · exact .inr ⟨by omega, hk.2⟩

set_option maxRecDepth 100000 in
set_option maxHeartbeats 1000000 in
theorem rtext_ok (w : World) (S : Nat → Prop) (b : Nat) (l : List UInt8) (top : Int) (n : Nat) (h : ReaderAt w S b l 0) (hn : 2 + n ≤ l.length) (hl : l.length ≤ 140737488355328) (h2 : ofBe (l.take 2) = n) (ht : (n : Int) ≤ max top 0) :
    Calls Try.prog 124 #[.pointer (some ⟨b, 0, none⟩), .int .i64 top] w fun e w' => e = .returned (.string ⟨((l.drop 2).take n).toArray⟩) ∧ ReaderAt w' S b (l.drop (2 + n)) 0 ∧ Chg (fun k => k = b) w w' := by
  have H := Lib.hid h
  have H2 := Lib.hid h2
  clear h h2
  go_enter Try.func124, Try.ntmps124
  go_wp2_with fail
  refine (rcount_ok w S b l top H.out (by omega) hl (by rw [H2.out]; exact ht)).mono ?_
  rintro e w1 ⟨rfl, h1, c1⟩
  have H1 := Lib.hid h1
  rw [H2.out]
  clear h1
  go_wp2_with fail
  refine (rraw_ok w1 S b _ n H1.out (by simp; omega) (by simp; omega)).mono ?_
  rintro e w3 ⟨v, rfl, h3, f3, k3, c3⟩
  obtain ⟨m, hm⟩ : ∃ m, m = (l.drop 2).take n := ⟨_, rfl⟩
  rw [← hm] at h3
  have HM := Lib.hid hm
  clear hm
  have hcv := convb w3 v _ h3.rb
  rw [List.drop_drop] at k3
  have K3 := Lib.hid k3
  obtain ⟨va, vc, rfl⟩ := h3.form
  clear h3 k3
  go_wp2_with fail
  go_ret
  rw [← HM.out]
  exact ⟨rfl, K3.out, c1.trans c3⟩
end Go.Proofs.Ytjhkhdockiocgaa
