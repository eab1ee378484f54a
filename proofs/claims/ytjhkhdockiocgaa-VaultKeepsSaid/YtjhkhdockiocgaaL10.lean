/- Layer 10's laws: what their walks share: cost, begins, the chapter's example. -/
import Derived.Test.YtjhkhdockiocgaaJU
import Derived.Lib.SlBytesConst
namespace Go.Proofs.Ytjhkhdockiocgaa
open Go.RowKit Go.Cat

set_option maxRecDepth 100000 in
set_option maxHeartbeats 1000000 in
theorem cost10 (n : Nat) (w : World) (hn : n ≤ 4611686018427387904) :
    Calls Try.prog 32 #[.int .i64 n] w fun e w' => e = .returned (.int .i64 (costN n)) ∧ w = w' := by
  have hC : Hid (costN n = max ((n + 46) / 47) 1) := rfl
  go_enter Try.func32, Try.ntmps32
  go_wp2_with fail
  go_loop [0, 3] (fun x k => ∃ i : Nat, x = .int .i64 ((n : Int) - 47 * i) ∧ k = .int .i64 ((i : Int) + 1) ∧ (47 * i < n ∨ i = 0)) (fun x _ => (intOf x).toNat)
  case atStart => exact ⟨0, by simp, by simp, .inr rfl⟩
  case round =>
    obtain ⟨i, rfl, rfl, hi⟩ := hrel
    by_cases hlt : 47 < (n : Int) - 47 * i
    · have e1 : IntKind.i64.wrap ((n : Int) - 47 * i - 47) = (n : Int) - 47 * i - 47 := IntWalk.i64_in _ (by omega)
      have e2 : IntKind.i64.wrap ((i : Int) + 1 + 1) = (i : Int) + 1 + 1 := IntWalk.i64_in _ (by omega)
      have e3 : wrap64 ((n : Int) - 47 * i - 47) = (n : Int) - 47 * i - 47 := by unfold wrap64; omega
      have e4 : wrap64 ((i : Int) + 1 + 1) = (i : Int) + 1 + 1 := by unfold wrap64; omega
      go_wp2_with fail
      exact ⟨⟨i + 1, by congr 1; omega, by congr 1, .inl (by omega)⟩, by simp only [intOf]; omega⟩
    · go_wp2_with fail
      go_ret
      exact ⟨congrArg (fun z => Ending.returned (.int .i64 z)) (show (i : Int) + 1 = (costN n : Nat) by rw [hC.out]; omega), rfl⟩

theorem convz10 (w : World) (v : Value) (l : List UInt8) (h : RBz w v l) : (convert 33 9 v).run Try.prog w = .ok (.string ⟨l.toArray⟩) w := run_string_z w _ _ 5 Try.underlying33 Try.underlying5 Try.underlying9 v l h
set_option maxRecDepth 100000 in
set_option maxHeartbeats 2000000 in
theorem begins_true (gv dv bv : Value) (got done behind p : List (List UInt8)) (w : World) (hg : RBs w gv got) (hd : RBs w dv done) (hb : RBs w bv behind) (hp : p <+: behind) (he : got = done ++ p) (hm : done.length + behind.length ≤ 1000000) :
    Calls Try.prog 31 #[gv, dv, bv] w fun e w' => e = .returned (.bool true) ∧ w = w' := by
  obtain ⟨ga, gc, rfl⟩ := hg.form
  obtain ⟨da, dc, rfl⟩ := hd.form
  obtain ⟨ba, bc, rfl⟩ := hb.form
  obtain ⟨q, hq⟩ := hp
  obtain ⟨n, hn⟩ : ∃ n, n = got.length := ⟨_, rfl⟩
  obtain ⟨m, hmm⟩ : ∃ m, m = done.length := ⟨_, rfl⟩
  obtain ⟨k, hk⟩ : ∃ k, k = behind.length := ⟨_, rfl⟩
  have hm1 : m ≤ 1000000 := by omega
  have hm2 : k ≤ 1000000 := by omega
  have hnm : m ≤ n := by rw [hn, he, hmm]; simp
  have hnk : n ≤ m + k := by rw [hn, he, hk, hmm, ← hq]; simp
  have hat : ∀ i, i < n → ∃ l, got[i]? = some l ∧ (i < m → done[i]? = some l) ∧ (m ≤ i → behind[i - m]? = some l) := fun i hi => by
    obtain ⟨l, hl⟩ := getElem?_some_lt (show i < got.length by omega)
    refine ⟨l, hl, fun h => ?_, fun h => ?_⟩
    · rw [he, List.getElem?_append_left (by omega)] at hl; exact hl
    · rw [he, List.getElem?_append_right (by omega)] at hl
      rw [← hq, List.getElem?_append_left (by have := (List.getElem?_eq_some_iff.1 hl).1; omega)]
      rw [hmm]; exact hl
  rw [← hn] at hg ⊢
  rw [← hmm] at hd ⊢
  rw [← hk] at hb ⊢
  have HG := Lib.hid hg
  have HD := Lib.hid hd
  have HB := Lib.hid hb
  have HAT := Lib.hid hat
  have i1 : ¬ (n : Int) < m := by omega
  have i2 : ¬ (m : Int) + k < n := by omega
  clear hg hd hb hat he hq hn hmm hk
  go_enter Try.func31, Try.ntmps31
  go_wp2_with fail
  go_loop [27] (fun i => ∃ j : Nat, j ≤ n ∧ i = .int .i64 j) (fun i => n - (intOf i).toNat)
  case atStart => exact ⟨0, by omega, rfl⟩
  case round =>
    obtain ⟨j, hj, rfl⟩ := hrel
    by_cases hlt : j < n
    · obtain ⟨l, h1, h2, h3⟩ := HAT.out j hlt
      obtain ⟨g, o, u, uc, rfl, c1, z1⟩ := HG.out.at_ j l h1
      have v1 := convz10 w _ _ z1
      clear h1 z1
      by_cases hjm : j < m
      · obtain ⟨g2, o2, u2, uc2, rfl, c2, z2⟩ := HD.out.at_ j l (h2 hjm)
        have v2 := convz10 w _ _ z2
        clear h2 h3 z2
        go_wp2_with fail
        exact ⟨⟨j + 1, by omega, rfl⟩, by simp only [intOf]; omega⟩
      · obtain ⟨g2, o2, u2, uc2, rfl, c2, z2⟩ := HB.out.at_ (j - m) l (h3 (by omega))
        have v2 := convz10 w _ _ z2
        clear h2 h3 z2
        obtain ⟨r, rfl⟩ : ∃ r, j = m + r := ⟨j - m, by omega⟩
        rw [Nat.add_sub_cancel_left] at c2
        have e1 : IntKind.i64.wrap (((m + r : Nat) : Int) - m) = (r : Int) := by rw [IntWalk.i64_in _ (by omega)]; omega
        have e2 : wrap64 (((m + r : Nat) : Int) - m) = (r : Int) := by unfold wrap64; omega
        have e3 : ((m + r : Nat) : Int) - m = (r : Int) := by omega
        have e4 : r < k := by omega
        go_wp2_with fail
        exact ⟨⟨m + r + 1, by omega, rfl⟩, by simp only [intOf]; omega⟩
    · obtain rfl : j = n := by omega
      go_wp2_with fail
      go_ret
      exact ⟨rfl, rfl⟩
theorem conv_const10 (w : World) (C : Array Value) (n c : Nat) : (convert 33 33 (.slice (some ⟨w.heap.size, 0, none⟩) n c)).run Try.prog (w.alloc (.cells C 5)) = .ok (.slice (some ⟨w.heap.size, 0, none⟩) n c) (w.alloc (.cells C 5 (C.size, C.size + 1))) :=
  Lib.run_convert_bytes_const w 33 5 C n c Try.underlying33 Try.underlying5
theorem rb_lit10 (w : World) (T : TypeId) (l : List UInt8) (cs : Array Value) (f : Nat × Nat) (n : Nat) (hc : cs = (bs l).toArray) (hn : n = l.length) (hm : l.length ≤ maxLen) : RB (w.alloc (.cells cs T f)) (.slice (some ⟨w.heap.size, 0, none⟩) n n) l := by
  subst hc hn
  refine ⟨by simp, .inr ⟨w.heap.size, 0, l.length, rfl, by simp, hm, by simp, fun j u hj => ?_⟩⟩
  rw [Nat.zero_add, cell_of_heap (heap_at_new _ _ _ rfl)]
  simpa using hj

theorem OutsF.rbs1 {w : World} {F : Nat → Prop} {v : Value} {l : List UInt8} (h : OutsF w F v [l]) : ∃ g o c u uc, v = .slice (some ⟨g, o, none⟩) 1 c ∧ w.cell? ⟨g, o, none⟩ = some (.slice u l.length uc) ∧ RBz w (.slice u l.length uc) l := by
  obtain ⟨a, c, rfl⟩ := h.form
  obtain ⟨g, o, u, uc, rfl, h1, h2⟩ := h.rbs.at_ 0 l rfl
  exact ⟨g, o, c, u, uc, rfl, h1, h2⟩
set_option maxRecDepth 100000 in
set_option maxHeartbeats 2000000 in
theorem lives10 (w : World) : Calls Try.prog 23 #[] w fun e w' => e = .returned (.bool true) ∧ Chg (fun _ => False) w w' := by
  go_enter Try.func23, Try.ntmps23
  go_wp2_with fail
  refine (ju_new w w 9 1 6 7 (by omega) (by omega) (Chg.refl _ w) (by omega) (by omega) (by omega)).mono ?_
  rintro e w1 ⟨D, rfl, h1, c1⟩
  have H1 := Lib.hid h1
  clear h1 c1
  go_wp2_with fail
  refine (ju_newj H1.out 1 6 7 (by omega) (by omega) (by omega)).mono ?_
  rintro e w2 ⟨J, rfl, h2, j2, z2, c2⟩
  have H2 := Lib.hid h2
  have JI2 := Lib.hid j2
  clear h2 j2 z2 c2 H1
  have kc := conv_const10
  go_wp2_with fail
  refine (ju_commit (H2.out.same ((Chg.refl _ w2).alloc _)) J _ [97] (JI2.out.kept ((Chg.refl (fun _ => False) w2).alloc _) (fun h => h)) (.inr rfl) (.inl (rb_lit10 w2 _ [97] _ _ _ rfl rfl (by simp [maxLen]))) (by simp) (by decide) (by omega) (by omega)).mono ?_
  rintro e w3 ⟨rfl, h3, j3, T3, c3, t3⟩
  have H3 := Lib.hid h3
  have JI3 := Lib.hid j3
  clear h3 j3 c3 t3 H2 JI2
  go_wp2_with fail
  refine (ju_write (H3.out.same ((Chg.refl _ w3).alloc _)) J _ [98] (JI3.out.kept ((Chg.refl (fun _ => False) w3).alloc _) (fun h => h)) (.inr rfl) (.inl (rb_lit10 w3 _ [98] _ _ _ rfl rfl (by simp [maxLen]))) (by simp) (by decide) (by omega) (by omega)).mono ?_
  rintro e w4 ⟨rfl, h4, j4, T4, c4, t4⟩
  have H4 := Lib.hid h4
  clear h4 j4 c4 t4 H3 JI3
  go_wp2_with fail
  refine (ju_crash0 H4.out (-1) 0 (by omega) (by omega) (by omega) (.inr (fun _ h => h))).mono ?_
  rintro e w5 ⟨rfl, h5, T5, c5, t5⟩
  have H5 := Lib.hid h5
  clear h5 c5 t5 H4
  go_wp2_with fail
  refine (cu_up H5.out).mono ?_
  rintro e w6 ⟨rfl, h6, T6, c6, t6⟩
  have H6 := Lib.hid h6
  clear h6 c6 t6 H5
  go_wp2_with fail
  refine (cu_read H6.out (by omega)).mono ?_
  rintro e w7 ⟨v, F, t', p, rfl, hp, h7, hF, ht, h8, c7⟩
  obtain rfl := List.prefix_nil.1 hp
  obtain ⟨g, o, c, u, uc, rfl, q1, z1⟩ := OutsF.rbs1 (l := [97]) h7
  obtain rfl : t' = 7 := ht (by simp)
  have q1 : w7.cell? ⟨g, o, none⟩ = some (.slice u 1 uc) := q1
  have v1 : (convert 33 9 (.slice u 1 uc)).run Try.prog w7 = .ok (.string ⟨#[97]⟩) w7 := convz10 w7 _ _ z1
  have H8 := Lib.hid h8.chg
  clear hp h7 hF ht h8 c7 z1 H6
  go_wp2_with fail
  go_ret
  exact ⟨rfl, H8.out⟩
end Go.Proofs.Ytjhkhdockiocgaa
