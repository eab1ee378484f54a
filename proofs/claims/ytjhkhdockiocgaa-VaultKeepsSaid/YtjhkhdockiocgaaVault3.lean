/- Contracts of package vault: begin (law level). -/
import Derived.Test.YtjhkhdockiocgaaVault2
namespace Go.Proofs.Ytjhkhdockiocgaa
open Go.RowKit Go.Cat

theorem dj_dev {w0 w : World} {D : Nat} {d : Dev} {S : Nat → Prop} (h : DJ w0 w D d S) : ∃ lv wv, DevIs w D lv wv d := by
  obtain ⟨_, _, lv, wv, h1, _⟩ := h
  exact ⟨lv, wv, h1⟩
theorem dj_size (w0 w : World) (D : Nat) (d : Dev) (S : Nat → Prop) (h : DJ w0 w D d S) :
    Calls Try.prog 84 #[.pointer (some ⟨D, 0, none⟩)] w fun e w' => e = .returned (.int .i64 ((d.l.length / 2 : Nat) : Int)) ∧ w = w' := by
  obtain ⟨lv, wv, h1⟩ := dj_dev h
  exact vsize w D lv wv d h1
set_option maxRecDepth 100000 in
set_option maxHeartbeats 1000000 in
theorem vbegin (w0 w : World) (D : Nat) (d : Dev) (S : Nat → Prop) (half t : Nat) (v : Value) (l : List UInt8) (h : DJ w0 w D d S) (hh : half ≤ 1) (hv : RBz w v l) (hd : d.down = false) (hl0 : d.left = 0) (h8 : 8 ≤ d.l.length) (h82 : d.l.length ≤ 8192) (hl : l.length ≤ 600)
    (hfit : costN l.length ≤ d.l.length / 2) (ht : t < 4294967296) (h0 : t ≠ 0) (hm : d.waits.length ≤ 900000) :
    Calls Try.prog 87 #[.pointer (some ⟨D, 0, none⟩), .int .i64 half, .int .u32 t, v] w fun e w' => ∃ J, e = .returned (.tuple #[.pointer (some ⟨J, 0, none⟩), .int .i64 0]) ∧
      DJ w0 w' D { d with l := flushTo d.l (d.waits ++ wat (half * (d.l.length / 2)) (recSecs t 0 l)), waits := [] } (fun k => S k ∨ k = J) ∧ JIs w' J D (half * (d.l.length / 2)) (d.l.length / 2) t (costN l.length) ∧ w.heap.size ≤ J ∧
      ∃ T, Chg T w w' ∧ ∀ k, k < w.heap.size → T k → w0.heap.size ≤ k ∧ ¬ S k := by
  obtain ⟨va, vc, rfl⟩ := hv.form
  have SZ := Lib.hid (dj_size w0 w D d S h)
  have hle : half * (d.l.length / 2) + d.l.length / 2 ≤ d.l.length := by
    have : half * (d.l.length / 2) ≤ 1 * (d.l.length / 2) := Nat.mul_le_mul_right _ hh
    omega
  have NJ := Lib.hid (dj_newj w0 w D d S h (half * (d.l.length / 2)) (d.l.length / 2) t h0 (by omega) hle)
  have CJ : Hid (∀ (w1 : World) (J : Nat), DJ w0 w1 D d (fun k => S k ∨ k = J) → JIs w1 J D (half * (d.l.length / 2)) (d.l.length / 2) t 0 → RBz w1 (.slice va l.length vc) l → _) := fun w1 J a b c => dj_commit w0 w1 J D (half * (d.l.length / 2)) (d.l.length / 2) t 0 d (fun k => S k ∨ k = J) _ l a b (.inr rfl) c hd hl0 hle hl (by omega) ht h0 hm
  have HV := Lib.hid hv
  have HS := Lib.hid h.2.1
  obtain ⟨q, hq⟩ : ∃ q, q = d.l.length / 2 := ⟨_, rfl⟩
  rw [← hq] at SZ NJ CJ ⊢
  have hq1 : q ≤ 4096 := by omega
  have e1 : ((half * q : Nat) : Int) = (half : Int) * q := by simp
  rw [e1] at NJ
  have hb : (0 : Int) ≤ (half : Int) * q := by omega
  have hb2 : (half : Int) * q ≤ 4096 := by rw [← e1]; have : half * q ≤ 1 * q := Nat.mul_le_mul_right _ hh; omega
  have hw : wrap64 ((half : Int) * q) = (half : Int) * q := by unfold wrap64; omega
  clear h hd hl0 h8 h82 hm hq e1 hle hv hfit
  go_enter Try.func87, Try.ntmps87
  go_wp2_with (first | (go_at_call 84; refine SZ.out.mono ?_; rintro e w' ⟨rfl, rfl⟩))
  refine NJ.out.mono ?_
  rintro e w1 ⟨J, rfl, h1, j1, z1, c1⟩
  have CC := Lib.hid (CJ.out w1 J h1 j1 (HV.out.same c1))
  have C1 := Lib.hid c1
  have Z1 := Lib.hid z1
  clear h1 j1 z1 c1
  go_wp2_with fail
  refine CC.out.mono ?_
  rintro e w2 ⟨rfl, h2, j2, T2, c2, t2⟩
  rw [Nat.add_zero] at h2
  rw [Nat.zero_add] at j2
  have H2 := Lib.hid h2
  have J2 := Lib.hid j2
  have C2 := Lib.hid c2
  have T2' := Lib.hid t2
  clear h2 j2 c2 t2
  go_wp2_with fail
  go_ret2
  have hz := C1.out.size
  refine ⟨J, rfl, H2.out, J2.out, Z1.out, T2, (C1.out.mono (fun _ _ h => h.elim)).trans C2.out, fun k hk ht => ?_⟩
  obtain ⟨g1, g2⟩ := T2'.out k (by omega) ht
  exact ⟨g1, fun hs => by have := g2 (.inl hs); have := Z1.out; omega⟩
end Go.Proofs.Ytjhkhdockiocgaa
