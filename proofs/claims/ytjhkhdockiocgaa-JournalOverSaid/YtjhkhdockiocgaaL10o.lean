/- JournalOver: the walk. -/
import Derived.Test.YtjhkhdockiocgaaL10w
namespace Go.Cat
open Go.RowKit
theorem RBs.take {w : World} {a : Option Addr} {n c : Nat} {ls : List (List UInt8)} (h : RBs w (.slice a n c) ls) {j : Nat} (hj : j ≤ n) : RBs w (.slice a j c) (ls.take j) := by
  obtain ⟨vs, h1, h2⟩ := h
  have hvl := h1.1
  rcases h1.2 with ⟨hv, h0⟩ | ⟨g, o, cap, hv, k1, k2, k3, k4⟩
  · simp only [Value.slice.injEq] at hv
    obtain ⟨rfl, rfl, rfl⟩ := hv
    obtain rfl : j = 0 := by omega
    exact ⟨[], by rw [List.take_zero]; exact Reads.nil w 1, by simp⟩
  · simp only [Value.slice.injEq] at hv
    obtain ⟨rfl, rfl, rfl⟩ := hv
    have hlj : (ls.take j).length = j := by rw [List.length_take]; omega
    refine ⟨vs.take j, ⟨by rw [hlj, List.length_take]; omega, .inr ⟨g, o, c, by rw [hlj], by omega, k2, k3, fun i u hu => ?_⟩⟩, fun i u l hu hl => ?_⟩
    · rw [List.getElem?_take] at hu
      split at hu
      · exact k4 i u hu
      · cases hu
    · rw [List.getElem?_take] at hu hl
      split at hu
      · rename_i hi; rw [if_pos hi] at hl; exact h2 i u l hu hl
      · cases hu
theorem RBs.drop {w : World} {a : Option Addr} {n c : Nat} {ls : List (List UInt8)} (h : RBs w (.slice a n c) ls) {j : Nat} (hj : j ≤ n) : RBs w (.slice (if c = j then a else a.map (·.add (j * 1))) (n - j) (c - j)) (ls.drop j) := by
  obtain ⟨vs, h1, h2⟩ := h
  have hvl := h1.1
  rcases h1.2 with ⟨hv, h0⟩ | ⟨g, o, cap, hv, k1, k2, k3, k4⟩
  · simp only [Value.slice.injEq] at hv
    obtain ⟨rfl, rfl, rfl⟩ := hv
    obtain rfl : j = 0 := by omega
    obtain rfl : ls = [] := List.eq_nil_of_length_eq_zero h0
    exact ⟨[], by simpa using Reads.nil w 1, by simp⟩
  · simp only [Value.slice.injEq] at hv
    obtain ⟨rfl, rfl, rfl⟩ := hv
    have hlj : (ls.drop j).length = ls.length - j := List.length_drop
    refine ⟨vs.drop j, ⟨by rw [hlj, List.length_drop]; omega, ?_⟩, fun i u l hu hl => ?_⟩
    · by_cases hc : c = j
      · rw [if_pos hc]
        refine .inr ⟨g, o, c - j, by rw [hlj], by omega, by omega, k3, fun i u hu => ?_⟩
        have := (List.getElem?_eq_some_iff.1 hu).1
        rw [List.length_drop] at this; omega
      · rw [if_neg hc]
        refine .inr ⟨g, o + j, c - j, by rw [hlj]; simp [addr_add], by omega, by omega, k3, fun i u hu => ?_⟩
        rw [List.getElem?_drop] at hu
        rw [Nat.add_assoc]
        exact k4 (j + i) u hu
    · rw [List.getElem?_drop] at hu hl
      exact h2 (j + i) u l hu hl
end Go.Cat
namespace Go.Proofs.Ytjhkhdockiocgaa
open Go.RowKit Go.Cat

theorem freshz (k lo n t : Nat) (hlen : lo + n ≤ k) (ht : t < 4294967296) (h0 : t ≠ 0) (hn : n ≤ 8192) : JInv ⟨List.replicate k (zb 64), [], false, 0, 0, 0, 0⟩ lo n t (fun o => o = zb 64) [] [] :=
  ⟨by simpa using hlen, fun x hx => by rw [(List.mem_replicate.1 hx).2]; simp, fun i hi => by simp [total] at hi, fun i _ hi => ⟨zb 64, by show (List.replicate k (zb 64))[lo + i]? = _; rw [List.getElem?_replicate, if_pos (by omega)], zb_clear8 ht h0, rfl⟩, rfl, by simp [total], hn⟩
theorem ju_newz (w0 w : World) (N lo n t : Nat) (h1 : 1 ≤ N) (h2 : N ≤ 8192) (hc : Chg (fun _ => False) w0 w) (hlen : lo + n ≤ N) (ht : t < 4294967296) (h0 : t ≠ 0) :
    Calls Try.prog 24 #[.int .i64 N] w fun e w' => ∃ D, e = .returned (.tuple #[.pointer (some ⟨D, 0, none⟩), .int .i64 0]) ∧ JU w0 w' D N lo n t (fun o => o = zb 64) [] [] (fun _ => False) ∧ Chg (fun _ => False) w w' := by
  refine (dj_new w0 w N h1 h2 hc).mono ?_
  rintro e w' ⟨D, rfl, h3, c⟩
  exact ⟨D, rfl, ⟨_, h3, freshz N lo n t hlen ht h0 (by omega), rfl, rfl, by simp⟩, c⟩
/-- The other journal's view: the elder sectors have another turn, or nothing. -/
theorem JInv.over {d : Dev} {lo n t t' : Nat} {done : List (List UInt8)} (h : JInv d lo n t (fun o => o = zb 64) done []) (ht : t < 4294967296) (h0 : t ≠ 0) (ht' : t' < 4294967296) (h0' : t' ≠ 0) (hne : t' ≠ t) : JInv d lo n t' (fun _ => True) [] [] := by
  have hn := h.nn
  have hfit := h.fits
  refine ⟨h.len, h.l64, fun i hi => by simp [total] at hi, fun i _ hi => ?_, ?_, by simp [total], hn⟩
  · rcases Nat.lt_or_ge i (total done) with h1 | h1
    · have h2 := h.there i h1
      obtain ⟨x, hx⟩ := getElem?_some_lt (show i < (secsOf t 0 done).length by rw [secsOf_length]; exact h1)
      obtain ⟨L, e, h3, h4⟩ := secsOf_at t done 0 i x hx
      rw [Nat.zero_add] at h4
      exact ⟨x, by rw [h2, hx], by rw [h4]; exact pack_clear8 h3 ht' ht h0 (by omega) (by omega) (.inl hne), trivial⟩
    · obtain ⟨o, h2, h3, rfl⟩ := h.old i h1 hi
      exact ⟨_, h2, zb_clear8 ht' h0', trivial⟩
  · have := h.waits
    rw [this]; rfl
theorem slice_hi43 (w : World) (a : Option Addr) (n c hi : Nat) (h : hi ≤ c) : (Instr.sliceAt 43 (.slice a n c) none (some (.int .i64 hi)) none).run Try.prog w = .ok (.slice a hi c) w := by
  have h4 : (hi : Int) ≤ c := by omega
  simp [go_sem, Instr.sliceAt, Instr.slice, Instr.sliceBounds, h4]
theorem slice_lo43 (w : World) (a : Option Addr) (n c lo : Nat) (h : lo ≤ n) : (Instr.sliceAt 43 (.slice a n c) (some (.int .i64 lo)) none none).run Try.prog w = .ok (.slice (if c = lo then a else a.map (·.add (lo * 1))) (n - lo) (c - lo)) w := by
  have h4 : (lo : Int) ≤ n := by omega
  simp [go_sem, Instr.sliceAt, Instr.slice, Instr.sliceBounds, h4]
theorem total_le {ls : List (List UInt8)} {m : Nat} (h : ∀ r ∈ ls, costN r.length ≤ m) : total ls ≤ m * ls.length := by
  induction ls with
  | nil => simp [total]
  | cons r ls ih =>
    have h1 := h r (by simp)
    have h2 := ih (fun x hx => h x (by simp [hx]))
    simp only [total, List.length_cons, Nat.mul_add, Nat.mul_one]; omega
theorem take_snoc_of {α : Type} {l : List α} {k : Nat} {x : α} (h : l[k]? = some x) : l.take (k + 1) = l.take k ++ [x] := by rw [List.take_add_one, h]; rfl

/-- What 'done' holds: the first j of the row. -/
def DV (ba : Option Addr) (bc j : Nat) (dv : Value) : Prop := (j = 0 ∧ dv = .slice none 0 0) ∨ dv = .slice ba j bc
theorem take_two {α : Type} (l : List α) {j k : Nat} (h : j ≤ k) : l.take j ++ (l.drop j).take (k - j) = l.take k := by
  have := List.take_add (l := l) (i := j) (j := k - j)
  rw [show j + (k - j) = k by omega] at this
  exact this.symm
theorem drop_snoc {α : Type} {l : List α} {j k : Nat} {x : α} (h : j ≤ k) (hx : l[k]? = some x) : (l.drop j).take (k + 1 - j) = (l.drop j).take (k - j) ++ [x] := by
  rw [show k + 1 - j = (k - j) + 1 by omega]
  exact take_snoc_of (by rw [List.getElem?_drop, show j + (k - j) = k by omega]; exact hx)
set_option maxRecDepth 100000 in
set_option maxHeartbeats 8000000 in
theorem over10 (av bv : Value) (A B : List (List UInt8)) (keep : Nat) (torn bytes : Int) (w : World) (hA : RBs w av A) (hB : RBs w bv B) :
    Calls Try.prog 6 #[av, bv, .int .u64 keep, .int .i64 torn, .int .i64 bytes] w fun e w' => e = .returned (.bool true) ∧ Chg (fun _ => False) w w' := by
  obtain ⟨aa, ac, rfl⟩ := hA.form
  obtain ⟨ba, bc, rfl⟩ := hB.form
  have HA := Lib.hid hA
  have HB := Lib.hid hB
  have hbc : B.length ≤ bc := by
    obtain ⟨vs, h1, _⟩ := hB
    rcases h1.2 with ⟨hv, h0⟩ | ⟨g, o, c, hv, k1, _⟩
    · simp only [Value.slice.injEq] at hv; omega
    · simp only [Value.slice.injEq] at hv; omega
  clear hA hB
  go_enter Try.func6, Try.ntmps6
  go_wp2_with fail
  refine (lives10 _).mono ?_
  rintro e w1 ⟨rfl, c1⟩
  have C1 := Lib.hid c1
  clear c1
  by_cases hbig : 20 < A.length ∨ 20 < B.length
  · by_cases ha20 : 20 < A.length
    · have i1 : (20 : Int) < A.length := by omega
      go_wp2_with fail
      refine (lives10 _).mono ?_
      rintro e w2 ⟨rfl, c2⟩
      go_wp2_with fail
      go_ret
      exact ⟨rfl, C1.out.trans c2⟩
    · have i1 : ¬ (20 : Int) < A.length := by omega
      have i2 : (20 : Int) < B.length := by omega
      go_wp2_with fail
      refine (lives10 _).mono ?_
      rintro e w2 ⟨rfl, c2⟩
      go_wp2_with fail
      go_ret
      exact ⟨rfl, C1.out.trans c2⟩
  obtain ⟨p, hp⟩ : ∃ p, p = A.length := ⟨_, rfl⟩
  obtain ⟨n, hn⟩ : ∃ n, n = B.length := ⟨_, rfl⟩
  have HP := Lib.hid hp
  have HN := Lib.hid hn
  have i1 : ¬ (20 : Int) < p := by omega
  have i2 : ¬ (20 : Int) < n := by omega
  rw [← hp, ← hn]
  rw [← hn] at hbc
  clear hbig hp hn
  have HA1 := Lib.hid (HA.out.same C1.out)
  have HB1 := Lib.hid (HB.out.same C1.out)
  clear HA HB
  go_wp2_with fail
  refine (ju_newz w1 w1 80 0 80 3 (by omega) (by omega) (Chg.refl _ _) (by omega) (by omega) (by omega)).mono ?_
  rintro e w2 ⟨D, rfl, h2, c2⟩
  have H2 := Lib.hid h2
  clear h2 c2
  go_wp2_with fail
  refine (ju_newj H2.out 0 80 3 (by omega) (by omega) (by omega)).mono ?_
  rintro e w3 ⟨X, rfl, h3, x3, z3, c3⟩
  have H3 := Lib.hid h3
  have X3 := Lib.hid x3
  clear h3 x3 z3 c3 H2
  go_wp2_with fail
  refine (ju_newj H3.out 0 80 4 (by omega) (by omega) (by omega)).mono ?_
  rintro e w4 ⟨Y, rfl, h4, y4, z4, c4⟩
  have hXY : X ≠ Y := by have := X3.out.lt; omega
  have H4 := Lib.hid h4
  have X4 := Lib.hid (X3.out.kept c4 (fun h => h))
  have Y4 := Lib.hid y4
  clear h4 y4 z4 c4 H3 X3
  go_wp2_with fail
  go_loopw [54] (fun i wr => ∃ (k : Nat), k ≤ p ∧ i = .int .i64 k ∧ (∀ r ∈ A.take k, r.length ≤ 100) ∧ Hid (JU w1 wr D 80 0 80 3 (fun o => o = zb 64) (A.take k) [] (fun q => (False ∨ q = X) ∨ q = Y)) ∧ Hid (JIs wr X D 0 80 3 (total (A.take k) + total [])) ∧ Hid (JIs wr Y D 0 80 4 0)) (fun i _ => p - (intOf i).toNat)
  case atStart => exact ⟨0, by omega, rfl, by simp, H4.out, X4.out, Y4.out⟩
  case round =>
    obtain ⟨k, hk, rfl, hall, hJU, hX, hY⟩ := hrel
    have CH := Lib.hid hJU.out.chg
    have hpA := HP.out
    by_cases hlt : k < p
    · obtain ⟨l, hl⟩ := getElem?_some_lt (show k < A.length by omega)
      obtain ⟨g, o, u, uc, rfl, q1, z1⟩ := HA1.out.at_ k l hl
      have q2 := CH.out.cell q1 (fun h => h)
      have Z1 := Lib.hid z1
      have HT := Lib.hid (take_snoc_of hl)
      clear hl q1 z1
      by_cases h100 : 100 < l.length
      · have j1 : (100 : Int) < l.length := by omega
        clear hall hpA h100
        go_wp2_with fail
        go_ret
        exact ⟨rfl, C1.out.trans CH.out⟩
      have j1 : ¬ (100 : Int) < l.length := by omega
      have ht := total_le (m := 3) (ls := A.take k) (fun r hr => by have := hall r hr; unfold costN; omega)
      have hc3 : costN l.length ≤ 3 := by unfold costN; omega
      rw [List.length_take, ← hpA] at ht
      have CM := Lib.hid (ju_commit hJU.out X (.slice u l.length uc) l hX.out (.inl (.inr rfl)) (Z1.out.same CH.out) (by omega) (by simp only [total]; omega) (by omega) (by omega))
      have hall' : ∀ r ∈ A.take (k + 1), r.length ≤ 100 := fun r hr => by
        rw [HT.out] at hr
        rcases List.mem_append.1 hr with hr | hr
        · exact hall r hr
        · obtain rfl : r = l := by simpa using hr
          omega
      have HALL := Lib.hid hall'
      clear hall hall' ht hc3 h100 hpA
      go_wp2_with fail
      refine CM.out.mono ?_
      rintro e w5 ⟨rfl, h5, x5, T5, c5, t5⟩
      rw [List.append_nil, ← HT.out] at h5 x5
      have H5 := Lib.hid h5
      have X5 := Lib.hid x5
      have Y5 := Lib.hid (hY.out.kept c5 (fun ht => hXY ((t5 Y hY.out.lt ht).2 (.inr rfl)).symm))
      clear h5 x5 c5 t5 q2
      go_wp2_with fail
      exact ⟨⟨k + 1, by omega, rfl, HALL.out, H5.out, X5.out, Y5.out⟩, by simp only [intOf]; omega⟩
    · obtain rfl : k = p := by omega
      have hJ4 : Hid (JU w1 wr D 80 0 80 4 (fun _ => True) [] [] (fun q => (False ∨ q = X) ∨ q = Y)) := hJU.out.turn (fun d h => h.over (by omega) (by omega) (by omega) (by omega) (by omega))
      clear hall hpA
      go_wp2_with fail
      have HB2 : Hid (RBs w1 (.slice ba n bc) B) := by
        have h := HB1.out
        rw [← HN.out] at h
        exact h
      have Y4' := Lib.hid hY.out
      clear hJU hX hY CH HA1 HB1 HP hXY hlt hk i1
      go_loopw [19, 78] (fun dv i wr => ∃ (k j : Nat), k ≤ n ∧ i = .int .i64 k ∧ j ≤ k ∧ DV ba bc j dv ∧ (∀ r ∈ B.take k, r.length ≤ 100) ∧ Hid (JU w1 wr D 80 0 80 4 (fun _ => True) (B.take j) ((B.drop j).take (k - j)) (fun q => (False ∨ q = X) ∨ q = Y)) ∧ Hid (JIs wr Y D 0 80 4 (total (B.take j) + total ((B.drop j).take (k - j))))) (fun _ i _ => n - (intOf i).toNat)
      case atStart => exact ⟨0, 0, by omega, rfl, by omega, .inl ⟨rfl, rfl⟩, by simp, hJ4.out, Y4'.out⟩
      case round =>
        obtain ⟨k, j, hk, rfl, hjk, hdv, hall, hJU, hY⟩ := hrel
        have CH := Lib.hid hJU.out.chg
        have hnB := HN.out
        by_cases hlt : k < n
        · obtain ⟨l, hl⟩ := getElem?_some_lt (show k < B.length by omega)
          obtain ⟨g, o, u, uc, rfl, q1, z1⟩ := HB2.out.at_ k l hl
          have q2 := CH.out.cell q1 (fun h => h)
          have Z1 := Lib.hid z1
          have HT := Lib.hid (take_snoc_of hl)
          have HDS := Lib.hid (drop_snoc hjk hl)
          have HTW := Lib.hid (take_two B hjk)
          have HDV := Lib.hid hdv
          clear hl q1 z1 hdv
          by_cases h100 : 100 < l.length
          · have j1 : (100 : Int) < l.length := by omega
            clear hall hnB h100
            go_wp2_with fail
            go_ret
            exact ⟨rfl, C1.out.trans CH.out⟩
          have j1 : ¬ (100 : Int) < l.length := by omega
          have ht := total_le (m := 3) (ls := B.take k) (fun r hr => by have := hall r hr; unfold costN; omega)
          have hc3 : costN l.length ≤ 3 := by unfold costN; omega
          rw [List.length_take, ← hnB] at ht
          have htt : total (B.take j) + total ((B.drop j).take (k - j)) = total (B.take k) := by rw [← total_append, HTW.out]
          have hfit : total (B.take j) + total ((B.drop j).take (k - j)) + costN l.length ≤ 80 := by rw [htt]; omega
          have CM := Lib.hid (ju_commit hJU.out Y (.slice u l.length uc) l hY.out (.inr rfl) (Z1.out.same CH.out) (by omega) hfit (by omega) (by omega))
          have WM := Lib.hid (ju_write hJU.out Y (.slice u l.length uc) l hY.out (.inr rfl) (Z1.out.same CH.out) (by omega) hfit (by omega) (by omega))
          have hall' : ∀ r ∈ B.take (k + 1), r.length ≤ 100 := fun r hr => by
            rw [HT.out] at hr
            rcases List.mem_append.1 hr with hr | hr
            · exact hall r hr
            · obtain rfl : r = l := by simpa using hr
              omega
          have HALL := Lib.hid hall'
          have hsl := fun w => slice_hi43 w (some ⟨g, o, none⟩) n bc (k + 1) (by omega)
          simp only [show ((k + 1 : Nat) : Int) = (k : Int) + 1 by omega] at hsl
          have hk20 : k ≤ 20 := by omega
          clear hall hall' ht hc3 h100 hnB htt hfit
          by_cases hev : k % 2 = 0 ∧ k + 1 < n
          · have e1 : ((k : Int) % 2 == 0) = true := by simp; omega
            have e2 : (k : Int) + 1 < n := by omega
            have e3 : ((k : Int).tmod 2 == 0) = true := by rw [Int.tmod_eq_emod_of_nonneg (by omega)]; simp; omega
            clear hev WM
            go_wp2_with fail
            refine CM.out.mono ?_
            rintro e w5 ⟨rfl, h5, y5, T5, c5, t5⟩
            rw [HTW.out, ← HT.out] at h5 y5
            have H5 := Lib.hid h5
            have Y5 := Lib.hid y5
            clear h5 y5 c5 t5 q2
            go_wp2_with fail
            exact ⟨⟨k + 1, k + 1, by omega, rfl, by omega, .inr rfl, HALL.out, by rw [Nat.sub_self, List.take_zero]; exact H5.out, by rw [Nat.sub_self, List.take_zero]; exact Y5.out⟩, by simp only [intOf]; omega⟩
          · have step : ∀ w5, JU w1 w5 D 80 0 80 4 (fun _ => True) (B.take j) ((B.drop j).take (k - j) ++ [l]) (fun q => (False ∨ q = X) ∨ q = Y) → JIs w5 Y D 0 80 4 (total (B.take j) + total ((B.drop j).take (k - j) ++ [l])) → JU w1 w5 D 80 0 80 4 (fun _ => True) (B.take j) ((B.drop j).take (k + 1 - j)) (fun q => (False ∨ q = X) ∨ q = Y) ∧ JIs w5 Y D 0 80 4 (total (B.take j) + total ((B.drop j).take (k + 1 - j))) := fun w5 a b => by
              rw [HDS.out]; exact ⟨a, b⟩
            have STEP := Lib.hid step
            clear step CM hsl
            by_cases hk2 : k % 2 = 0
            · have e1 : ((k : Int) % 2 == 0) = true := by simp; omega
              have e3 : ((k : Int).tmod 2 == 0) = true := by rw [Int.tmod_eq_emod_of_nonneg (by omega)]; simp; omega
              have e2 : ¬ (k : Int) + 1 < n := by omega
              clear hev hk2
              go_wp2_with fail
              refine WM.out.mono ?_
              rintro e w5 ⟨rfl, h5, y5, T5, c5, t5⟩
              obtain ⟨a5, b5⟩ := STEP.out w5 h5 y5
              have H5 := Lib.hid a5
              have Y5 := Lib.hid b5
              clear h5 y5 c5 t5 q2 a5 b5
              go_wp2_with fail
              exact ⟨⟨k + 1, j, by omega, rfl, by omega, HDV.out, HALL.out, H5.out, Y5.out⟩, by simp only [intOf]; omega⟩
            · have e1 : ((k : Int) % 2 == 0) = false := by simp; omega
              have e3 : ((k : Int).tmod 2 == 0) = false := by rw [Int.tmod_eq_emod_of_nonneg (by omega)]; simp; omega
              clear hev hk2
              go_wp2_with fail
              refine WM.out.mono ?_
              rintro e w5 ⟨rfl, h5, y5, T5, c5, t5⟩
              obtain ⟨a5, b5⟩ := STEP.out w5 h5 y5
              have H5 := Lib.hid a5
              have Y5 := Lib.hid b5
              clear h5 y5 c5 t5 q2 a5 b5
              go_wp2_with fail
              exact ⟨⟨k + 1, j, by omega, rfl, by omega, HDV.out, HALL.out, H5.out, Y5.out⟩, by simp only [intOf]; omega⟩
        · obtain rfl : k = n := by omega
          clear hall
          by_cases hj0 : j = 0
          · subst hj0
            obtain ⟨fa, fc, hfe⟩ : ∃ a c, u19 = Value.slice a 0 c := by
              rcases hdv with ⟨_, h⟩ | h
              · exact ⟨_, _, h⟩
              · exact ⟨_, _, h⟩
            subst hfe
            clear hdv hnB
            go_wp2_with fail
            go_ret
            exact ⟨rfl, C1.out.trans CH.out⟩
          · have hde : u19 = Value.slice ba j bc := by
              rcases hdv with ⟨h, _⟩ | h
              · exact absurd h hj0
              · exact h
            subst hde
            have zj : ((j : Int) == 0) = false := by simp; omega
            have hne : B.take j ≠ [] := fun h => by
              have h2 := congrArg List.length h
              rw [List.length_take] at h2
              simp only [List.length_nil] at h2
              omega
            have hdrop : (B.drop j).take (k - j) = B.drop j := List.take_of_length_le (by rw [List.length_drop]; omega)
            rw [hdrop] at hJU
            have CR := Lib.hid (ju_crash hJU.out keep torn bytes (by omega) (by omega) (by omega) (.inl hne))
            have hsl := fun w => slice_lo43 w ba k bc j hjk
            generalize hpv : (Value.slice (if bc = j then ba else ba.map (·.add (j * 1))) (k - j) (bc - j)) = pv at hsl
            have HPV := Lib.hid hpv
            have HNE := Lib.hid hne
            have hk20 : k ≤ 20 := by omega
            have HLB := Lib.hid (show (B.take j).length + (B.drop j).length ≤ 1000000 by rw [List.length_take, List.length_drop]; omega)
            clear hdv hnB hj0 hpv hne hdrop hJU hY
            go_wp2_with fail
            refine CR.out.mono ?_
            rintro e w5 ⟨rfl, h5, T5, c5, t5⟩
            have H5 := Lib.hid h5
            clear h5 c5 t5
            go_wp2_with fail
            refine (cu_up H5.out).mono ?_
            rintro e w6 ⟨rfl, h6, T6, c6, t6⟩
            have H6 := Lib.hid h6
            clear h6 c6 t6
            go_wp2_with fail
            refine (cu_read H6.out (by omega)).mono ?_
            rintro e w7 ⟨v, F, t', r, rfl, hr, h7, hF, ht, h8, c7⟩
            obtain rfl : t' = 4 := ht HNE.out
            have CH7 := Lib.hid h8.chg
            have hB7 := HB2.out.same h8.chg
            have hbv := hB7.drop hjk
            rw [HPV.out] at hbv
            have BG := Lib.hid (begins_true v (.slice ba j bc) pv (B.take j ++ r) (B.take j) (B.drop j) r w7 h7.rbs (hB7.take hjk) hbv hr rfl HLB.out)
            obtain ⟨va, vc, rfl⟩ := h7.form
            generalize (B.take j ++ r).length = vn at BG ⊢
            clear hr h7 hF ht h8 c7 hB7 hbv
            go_wp2_with fail
            refine BG.out.mono ?_
            rintro e w' ⟨rfl, rfl⟩
            go_wp2_with fail
            go_ret
            exact ⟨rfl, C1.out.trans CH7.out⟩
end Go.Proofs.Ytjhkhdockiocgaa
