/- Contracts of package vault: size, check, wipe, next. -/
import Derived.Test.YtjhkhdockiocgaaJU
namespace Go.Proofs.Ytjhkhdockiocgaa
open Go.RowKit Go.Cat Go.Shelf
attribute [local go_sem] Oper.semAt_some

set_option maxRecDepth 100000 in
theorem vsize (w : World) (D : Nat) (lv wv : Value) (d : Dev) (h : DevIs w D lv wv d) :
    Calls Try.prog 84 #[.pointer (some ⟨D, 0, none⟩)] w fun e w' => e = .returned (.int .i64 ((d.l.length / 2 : Nat) : Int)) ∧ w = w' := by
  have H := Lib.hid (len_any w D lv wv d h)
  have hm := h.many
  generalize d.l.length = n at H hm ⊢
  have e1 : ((n / 2 : Nat) : Int) = (n : Int) / 2 := by omega
  have E1 := Lib.hid e1
  clear h e1
  go_enter Try.func84, Try.ntmps84
  go_wp2_with (first | (go_at_call 109; refine H.out.mono ?_; rintro e w' ⟨rfl, rfl⟩))
  go_ret
  exact ⟨congrArg (fun z => Ending.returned (.int .i64 z)) E1.out.symm, rfl⟩
set_option maxRecDepth 100000 in
theorem vcheck (w : World) (D : Nat) (lv wv : Value) (d : Dev) (h : DevIs w D lv wv d) (hd : d.down = false) (h8 : 8 ≤ d.l.length) :
    Calls Try.prog 83 #[.pointer (some ⟨D, 0, none⟩)] w fun e w' => e = .returned (.int .i64 0) ∧ w = w' := by
  have H := Lib.hid (len_any w D lv wv d h)
  have K := down_no w D lv wv d h
  rw [hd] at K
  have K := Lib.hid K
  generalize d.l.length = n at H h8
  have i1 : ¬ (n : Int) < 8 := by omega
  clear h hd h8
  go_enter Try.func83, Try.ntmps83
  go_wp2_with (first | (go_at_call 109; refine H.out.mono ?_; rintro e w' ⟨rfl, rfl⟩) | (go_at_call 50; refine K.out.mono ?_; rintro e w' ⟨rfl, rfl⟩))
  go_ret
  exact ⟨rfl, rfl⟩
set_option maxRecDepth 100000 in
set_option maxHeartbeats 1000000 in
theorem vwipe (w : World) (D : Nat) (lv wv : Value) (d : Dev) (half : Nat) (hh : half ≤ 1) (h : DevIs w D lv wv d) (hd : d.down = false) (hl0 : d.left = 0) (h8 : 8 ≤ d.l.length) (hm : d.waits.length ≤ 900000) :
    Calls Try.prog 86 #[.pointer (some ⟨D, 0, none⟩), .int .i64 half] w fun e w' => e = .returned (.int .i64 0) ∧ DevIs w' D lv (.slice none 0 0) { d with l := flushTo d.l (d.waits ++ wat (half * (d.l.length / 2)) (List.replicate (d.l.length / 2) (zb 64))), waits := [] } ∧
      ∃ T, Chg T w w' ∧ ∀ k, k < w.heap.size → T k → foot D lv wv k := by
  have H := Lib.hid (vsize w D lv wv d h)
  have hmany := h.many
  have hle : half * (d.l.length / 2) + d.l.length / 2 ≤ d.l.length := by
    have : half * (d.l.length / 2) ≤ 1 * (d.l.length / 2) := Nat.mul_le_mul_right _ hh
    omega
  have W := Lib.hid (wipej_ok w D lv wv d (half * (d.l.length / 2)) (d.l.length / 2) h hd hl0 (by omega) hle hm)
  obtain ⟨q, hq⟩ : ∃ q, q = d.l.length / 2 := ⟨_, rfl⟩
  rw [← hq] at H W ⊢
  have hq1 : q ≤ 4096 := by omega
  have e1 : ((half * q : Nat) : Int) = (half : Int) * q := by simp
  rw [e1] at W
  have hb : (0 : Int) ≤ (half : Int) * q := by omega
  have hb2 : (half : Int) * q ≤ 4096 := by rw [← e1]; have : half * q ≤ 1 * q := Nat.mul_le_mul_right _ hh; omega
  have hw : wrap64 ((half : Int) * q) = (half : Int) * q := by unfold wrap64; omega
  clear h hd hl0 h8 hm hq e1 hle hmany
  go_enter Try.func86, Try.ntmps86
  go_wp2_with (first | (go_at_call 84; refine H.out.mono ?_; rintro e w' ⟨rfl, rfl⟩))
  refine W.out.mono ?_
  rintro e w1 ⟨rfl, h1, h2⟩
  go_wp2_with fail
  go_ret
  exact ⟨rfl, h1, h2⟩
end Go.Proofs.Ytjhkhdockiocgaa
