/- JournalArgs: the walk. -/
import Derived.Test.YtjhkhdockiocgaaL10
namespace Go.Proofs.Ytjhkhdockiocgaa
open Go.RowKit Go.Cat

set_option maxRecDepth 100000 in
set_option maxHeartbeats 8000000 in
theorem args10 (s : Nat) (lo n : Int) (turn size : Nat) (w : World) (hs : s < 256) (hlo : lo < 9223372036854775808) (hln : -9223372036854775808 ≤ lo) (hnn : -9223372036854775808 ≤ n ∧ n < 9223372036854775808) (hsz : size < 65536) :
    Calls Try.prog 9 #[.int .u8 s, .int .i64 lo, .int .i64 n, .int .u32 turn, .int .u16 size] w fun e w' => e = .returned (.bool true) ∧ Chg (fun _ => False) w w' := by
  have hC : Hid (inB (1 + s) lo n = decide (0 ≤ lo ∧ 1 ≤ n ∧ lo ≤ (1 + s : Nat) ∧ n ≤ (1 + s : Nat) - lo)) := rfl
  by_cases hin : 0 ≤ lo ∧ 1 ≤ n ∧ lo < 1 + s ∧ n ≤ 1 + s - lo
  · obtain ⟨a1, a2, a3, a4⟩ := hin
    obtain ⟨lo', rfl⟩ : ∃ k : Nat, lo = k := ⟨lo.toNat, by omega⟩
    obtain ⟨n', rfl⟩ : ∃ k : Nat, n = k := ⟨n.toNat, by omega⟩
    have HN := Lib.hid (fun (w : World) => ju_new w w (1 + s) lo' n' 1 (by omega) (by omega) (Chg.refl _ w) (by omega) (by omega) (by omega))
    simp only [show ((1 + s : Nat) : Int) = 1 + (s : Int) by omega] at HN
    clear hC hln hnn
    by_cases ht : turn = 0
    · subst ht
      go_enter Try.func9, Try.ntmps9
      go_wp2_with fail
      refine (lives10 _).mono ?_
      rintro e w1 ⟨rfl, c1⟩
      have C1 := Lib.hid c1
      clear c1
      go_wp2_with fail
      refine (HN.out _).mono ?_
      rintro e w2 ⟨D, rfl, h2, c2⟩
      obtain ⟨lv, wv, d, hd, hdl⟩ := h2.dev
      have NJ := Lib.hid (newj_no w2 D lv wv d hd lo' n' 0 (by omega) (.inr rfl))
      have H2 := Lib.hid h2
      clear h2 hd hdl c2
      go_wp2_with fail
      refine NJ.out.mono ?_
      rintro e w' ⟨rfl, rfl⟩
      go_wp2_with fail
      refine (ju_read H2.out (by omega) (by omega) (by omega) (.inr (fun _ h => h))).mono ?_
      rintro e w3 ⟨v, F, t', rfl, h3, _, _, h4, c3⟩
      obtain ⟨va, vc, rfl⟩ := h3.form
      have H4 := Lib.hid h4
      clear h3 h4 c3
      go_wp2_with fail
      refine (ju_wipe H4.out lo' n' (by omega) (by omega)).mono ?_
      rintro e w4 ⟨rfl, c4⟩
      have C4 := Lib.hid (C1.out.trans c4)
      clear c4
      go_wp2_with (first | (go_at_call 26; refine (none_commit _ _).mono ?_; rintro e w' ⟨rfl, rfl⟩) | (go_at_call 27; refine (none_write _ _).mono ?_; rintro e w' ⟨rfl, rfl⟩) | (go_at_call 35; refine (none_room _).mono ?_; rintro e w' ⟨rfl, rfl⟩) | (go_at_call 33; refine (none_next _).mono ?_; rintro e w' ⟨rfl, rfl⟩) | (go_at_call 34; refine (none_turn _).mono ?_; rintro e w' ⟨rfl, rfl⟩))
      refine (cost_any size _ (by omega)).mono ?_
      rintro e w' ⟨rfl, rfl⟩
      go_wp2_with fail
      refine (cost10 size _ (by omega)).mono ?_
      rintro e w' ⟨rfl, rfl⟩
      go_wp2_with fail
      refine (cost_neg _ _ (by omega)).mono ?_
      rintro e w' ⟨rfl, rfl⟩
      go_wp2_with fail
      go_ret
      exact ⟨rfl, C4.out⟩
    · clear hlo
      have t1 : ((turn : Int) == 0) = false := by simp; omega
      have t2 : (0 : Int) < turn := by omega
      go_enter Try.func9, Try.ntmps9
      go_wp2_with fail
      refine (lives10 _).mono ?_
      rintro e w1 ⟨rfl, c1⟩
      have C1 := Lib.hid c1
      clear c1
      go_wp2_with fail
      refine (HN.out _).mono ?_
      rintro e w2 ⟨D, rfl, h2, c2⟩
      have H1 := Lib.hid h2
      clear h2 c2
      go_wp2_with fail
      refine (ju_newj H1.out lo' n' turn (by omega) (by omega) (by omega)).mono ?_
      rintro e w22 ⟨J, rfl, h2, _, _, c22⟩
      have H2 := Lib.hid h2
      clear h2 c22
      go_wp2_with fail
      refine (ju_read H2.out (by omega) (by omega) (by omega) (.inr (fun _ h => h))).mono ?_
      rintro e w3 ⟨v, F, t', rfl, h3, _, _, h4, c3⟩
      obtain ⟨va, vc, rfl⟩ := h3.form
      have H4 := Lib.hid h4
      clear h3 h4 c3
      go_wp2_with fail
      refine (ju_wipe H4.out lo' n' (by omega) (by omega)).mono ?_
      rintro e w4 ⟨rfl, c4⟩
      have C4 := Lib.hid (C1.out.trans c4)
      clear c4
      go_wp2_with (first | (go_at_call 26; refine (none_commit _ _).mono ?_; rintro e w' ⟨rfl, rfl⟩) | (go_at_call 27; refine (none_write _ _).mono ?_; rintro e w' ⟨rfl, rfl⟩) | (go_at_call 35; refine (none_room _).mono ?_; rintro e w' ⟨rfl, rfl⟩) | (go_at_call 33; refine (none_next _).mono ?_; rintro e w' ⟨rfl, rfl⟩) | (go_at_call 34; refine (none_turn _).mono ?_; rintro e w' ⟨rfl, rfl⟩))
      refine (cost_any size _ (by omega)).mono ?_
      rintro e w' ⟨rfl, rfl⟩
      go_wp2_with fail
      refine (cost10 size _ (by omega)).mono ?_
      rintro e w' ⟨rfl, rfl⟩
      go_wp2_with fail
      refine (cost_neg _ _ (by omega)).mono ?_
      rintro e w' ⟨rfl, rfl⟩
      go_wp2_with fail
      go_ret
      exact ⟨rfl, C4.out⟩
  · have HB : Hid (inB (1 + s) lo n = false) := by show _ = _; rw [hC.out]; exact decide_eq_false (by omega)
    have HN := Lib.hid (fun (w : World) => ju_new w w (1 + s) 0 1 1 (by omega) (by omega) (Chg.refl _ w) (by omega) (by omega) (by omega))
    simp only [show ((1 + s : Nat) : Int) = 1 + (s : Int) by omega] at HN
    clear hC
    by_cases a1 : 0 ≤ lo
    · by_cases a2 : 1 ≤ n
      · by_cases a3 : lo < 1 + s
        · have a4 : ¬ n ≤ 1 + s - lo := fun h => hin ⟨a1, a2, a3, h⟩
          have a5 : decide (n ≤ 1 + (s : Int) - lo) = false := decide_eq_false a4
          clear hin
          go_enter Try.func9, Try.ntmps9
          go_wp2_with fail
          refine (lives10 _).mono ?_
          rintro e w1 ⟨rfl, c1⟩
          have C1 := Lib.hid c1
          clear c1
          go_wp2_with fail
          refine (HN.out _).mono ?_
          rintro e w2 ⟨D, rfl, h2, c2⟩
          obtain ⟨lv, wv, d, hd, hdl⟩ := h2.dev
          have NJ := Lib.hid (newj_no w2 D lv wv d hd lo n turn hlo (.inl (by rw [hdl]; exact HB.out)))
          have RJ := Lib.hid (readj_no w2 D lv wv d hd lo n hlo (by rw [hdl]; exact HB.out))
          have WJ := Lib.hid (wipej_no w2 D lv wv d hd lo n hlo (by rw [hdl]; exact HB.out))
          have C2 := Lib.hid (C1.out.trans c2)
          clear h2 hd hdl c2
          go_wp2_with fail
          refine NJ.out.mono ?_
          rintro e w' ⟨rfl, rfl⟩
          go_wp2_with fail
          refine RJ.out.mono ?_
          rintro e w' ⟨rfl, rfl⟩
          go_wp2_with fail
          refine WJ.out.mono ?_
          rintro e w' ⟨rfl, rfl⟩
          go_wp2_with (first | (go_at_call 26; refine (none_commit _ _).mono ?_; rintro e w' ⟨rfl, rfl⟩) | (go_at_call 27; refine (none_write _ _).mono ?_; rintro e w' ⟨rfl, rfl⟩) | (go_at_call 35; refine (none_room _).mono ?_; rintro e w' ⟨rfl, rfl⟩) | (go_at_call 33; refine (none_next _).mono ?_; rintro e w' ⟨rfl, rfl⟩) | (go_at_call 34; refine (none_turn _).mono ?_; rintro e w' ⟨rfl, rfl⟩))
          refine (cost_any size _ (by omega)).mono ?_
          rintro e w' ⟨rfl, rfl⟩
          go_wp2_with fail
          refine (cost10 size _ (by omega)).mono ?_
          rintro e w' ⟨rfl, rfl⟩
          go_wp2_with fail
          refine (cost_neg _ _ (by omega)).mono ?_
          rintro e w' ⟨rfl, rfl⟩
          go_wp2_with fail
          go_ret
          exact ⟨rfl, C2.out⟩
        · clear hin
          go_enter Try.func9, Try.ntmps9
          go_wp2_with fail
          refine (lives10 _).mono ?_
          rintro e w1 ⟨rfl, c1⟩
          have C1 := Lib.hid c1
          clear c1
          go_wp2_with fail
          refine (HN.out _).mono ?_
          rintro e w2 ⟨D, rfl, h2, c2⟩
          obtain ⟨lv, wv, d, hd, hdl⟩ := h2.dev
          have NJ := Lib.hid (newj_no w2 D lv wv d hd lo n turn hlo (.inl (by rw [hdl]; exact HB.out)))
          have RJ := Lib.hid (readj_no w2 D lv wv d hd lo n hlo (by rw [hdl]; exact HB.out))
          have WJ := Lib.hid (wipej_no w2 D lv wv d hd lo n hlo (by rw [hdl]; exact HB.out))
          have C2 := Lib.hid (C1.out.trans c2)
          clear h2 hd hdl c2
          go_wp2_with fail
          refine NJ.out.mono ?_
          rintro e w' ⟨rfl, rfl⟩
          go_wp2_with fail
          refine RJ.out.mono ?_
          rintro e w' ⟨rfl, rfl⟩
          go_wp2_with fail
          refine WJ.out.mono ?_
          rintro e w' ⟨rfl, rfl⟩
          go_wp2_with (first | (go_at_call 26; refine (none_commit _ _).mono ?_; rintro e w' ⟨rfl, rfl⟩) | (go_at_call 27; refine (none_write _ _).mono ?_; rintro e w' ⟨rfl, rfl⟩) | (go_at_call 35; refine (none_room _).mono ?_; rintro e w' ⟨rfl, rfl⟩) | (go_at_call 33; refine (none_next _).mono ?_; rintro e w' ⟨rfl, rfl⟩) | (go_at_call 34; refine (none_turn _).mono ?_; rintro e w' ⟨rfl, rfl⟩))
          refine (cost_any size _ (by omega)).mono ?_
          rintro e w' ⟨rfl, rfl⟩
          go_wp2_with fail
          refine (cost10 size _ (by omega)).mono ?_
          rintro e w' ⟨rfl, rfl⟩
          go_wp2_with fail
          refine (cost_neg _ _ (by omega)).mono ?_
          rintro e w' ⟨rfl, rfl⟩
          go_wp2_with fail
          go_ret
          exact ⟨rfl, C2.out⟩
      · clear hin
        go_enter Try.func9, Try.ntmps9
        go_wp2_with fail
        refine (lives10 _).mono ?_
        rintro e w1 ⟨rfl, c1⟩
        have C1 := Lib.hid c1
        clear c1
        go_wp2_with fail
        refine (HN.out _).mono ?_
        rintro e w2 ⟨D, rfl, h2, c2⟩
        obtain ⟨lv, wv, d, hd, hdl⟩ := h2.dev
        have NJ := Lib.hid (newj_no w2 D lv wv d hd lo n turn hlo (.inl (by rw [hdl]; exact HB.out)))
        have RJ := Lib.hid (readj_no w2 D lv wv d hd lo n hlo (by rw [hdl]; exact HB.out))
        have WJ := Lib.hid (wipej_no w2 D lv wv d hd lo n hlo (by rw [hdl]; exact HB.out))
        have C2 := Lib.hid (C1.out.trans c2)
        clear h2 hd hdl c2
        go_wp2_with fail
        refine NJ.out.mono ?_
        rintro e w' ⟨rfl, rfl⟩
        go_wp2_with fail
        refine RJ.out.mono ?_
        rintro e w' ⟨rfl, rfl⟩
        go_wp2_with fail
        refine WJ.out.mono ?_
        rintro e w' ⟨rfl, rfl⟩
        go_wp2_with (first | (go_at_call 26; refine (none_commit _ _).mono ?_; rintro e w' ⟨rfl, rfl⟩) | (go_at_call 27; refine (none_write _ _).mono ?_; rintro e w' ⟨rfl, rfl⟩) | (go_at_call 35; refine (none_room _).mono ?_; rintro e w' ⟨rfl, rfl⟩) | (go_at_call 33; refine (none_next _).mono ?_; rintro e w' ⟨rfl, rfl⟩) | (go_at_call 34; refine (none_turn _).mono ?_; rintro e w' ⟨rfl, rfl⟩))
        refine (cost_any size _ (by omega)).mono ?_
        rintro e w' ⟨rfl, rfl⟩
        go_wp2_with fail
        refine (cost10 size _ (by omega)).mono ?_
        rintro e w' ⟨rfl, rfl⟩
        go_wp2_with fail
        refine (cost_neg _ _ (by omega)).mono ?_
        rintro e w' ⟨rfl, rfl⟩
        go_wp2_with fail
        go_ret
        exact ⟨rfl, C2.out⟩
    · clear hin
      go_enter Try.func9, Try.ntmps9
      go_wp2_with fail
      refine (lives10 _).mono ?_
      rintro e w1 ⟨rfl, c1⟩
      have C1 := Lib.hid c1
      clear c1
      go_wp2_with fail
      refine (HN.out _).mono ?_
      rintro e w2 ⟨D, rfl, h2, c2⟩
      obtain ⟨lv, wv, d, hd, hdl⟩ := h2.dev
      have NJ := Lib.hid (newj_no w2 D lv wv d hd lo n turn hlo (.inl (by rw [hdl]; exact HB.out)))
      have RJ := Lib.hid (readj_no w2 D lv wv d hd lo n hlo (by rw [hdl]; exact HB.out))
      have WJ := Lib.hid (wipej_no w2 D lv wv d hd lo n hlo (by rw [hdl]; exact HB.out))
      have C2 := Lib.hid (C1.out.trans c2)
      clear h2 hd hdl c2
      go_wp2_with fail
      refine NJ.out.mono ?_
      rintro e w' ⟨rfl, rfl⟩
      go_wp2_with fail
      refine RJ.out.mono ?_
      rintro e w' ⟨rfl, rfl⟩
      go_wp2_with fail
      refine WJ.out.mono ?_
      rintro e w' ⟨rfl, rfl⟩
      go_wp2_with (first | (go_at_call 26; refine (none_commit _ _).mono ?_; rintro e w' ⟨rfl, rfl⟩) | (go_at_call 27; refine (none_write _ _).mono ?_; rintro e w' ⟨rfl, rfl⟩) | (go_at_call 35; refine (none_room _).mono ?_; rintro e w' ⟨rfl, rfl⟩) | (go_at_call 33; refine (none_next _).mono ?_; rintro e w' ⟨rfl, rfl⟩) | (go_at_call 34; refine (none_turn _).mono ?_; rintro e w' ⟨rfl, rfl⟩))
      refine (cost_any size _ (by omega)).mono ?_
      rintro e w' ⟨rfl, rfl⟩
      go_wp2_with fail
      refine (cost10 size _ (by omega)).mono ?_
      rintro e w' ⟨rfl, rfl⟩
      go_wp2_with fail
      refine (cost_neg _ _ (by omega)).mono ?_
      rintro e w' ⟨rfl, rfl⟩
      go_wp2_with fail
      go_ret
      exact ⟨rfl, C2.out⟩
end Go.Proofs.Ytjhkhdockiocgaa
