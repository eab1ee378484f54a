/- The law StampJoins, its walk. -/
import Derived.Test.YtncgeeaifacapaaStampPure
import Derived.BigRegion
namespace Go.Proofs.Ytncgeeaifacapaa
open Go.RowKit Go.Cat

set_option maxRecDepth 100000 in
set_option maxHeartbeats 1000000 in
theorem lives09 (w : World) : Calls Try.prog 18 #[] w fun e w' => e = .returned (.bool true) ∧ Chg (fun _ => False) w w' := by
  have hmk : ∀ w : World, (Instr.makeSlice 26 (.int .i64 100) (.int .i64 100)).run Try.prog w = .ok (.slice (some ⟨w.heap.size, 0, none⟩) 100 100) (w.alloc (.cells (zeroRow 100) 5)) := fun w => make_bytes w 100 (by omega)
  go_enter Try.func18, Try.ntmps18
  go_wp2_with fail
  have hob := OB.made w 100 5 (by simp [maxLen])
  refine (split_any 1 5 _ _ _ hob.rb (by omega) (by omega) (by simp) (by omega) (by simp)).mono ?_
  rintro e w1 ⟨v, ss, rfl, hs, hsp, hc⟩
  rw [zb_length, show max ((100 + 46) / 47) 1 = 3 from rfl] at hsp
  obtain ⟨s0, s1, s2, rfl⟩ : ∃ a b c, ss = [a, b, c] := by
    have h3 := hsp.1
    match ss, h3 with
    | [a, b, c], _ => exact ⟨a, b, c, rfl⟩
  obtain ⟨t0, p0, l0, d0⟩ := hsp.2 0 s0 rfl
  obtain ⟨t1, p1, l1, d1⟩ := hsp.2 1 s1 rfl
  obtain ⟨t2, p2, l2, d2⟩ := hsp.2 2 s2 rfl
  rcases hs.own.2 with ⟨_, h0⟩ | ⟨g, o, c, rfl, g1, g2, g3, g4, _⟩
  · simp at h0
  obtain ⟨a0, c0, e0⟩ := (hs.data s0 (by simp)).1.form
  obtain ⟨a2, c2, e2⟩ := (hs.data s2 (by simp)).1.form
  have q3 := g4 3 _ rfl
  have q6 := g4 6 _ rfl
  have q8 := g4 8 _ rfl
  have q9 := g4 9 _ rfl
  have q10 := g4 10 _ rfl
  have q11 := g4 11 _ rfl
  have n0 : s0.data.length = 47 := by rw [d0]; simp
  have n2 : s2.data.length = 6 := by rw [d2]; simp
  rw [e0, n0] at q3
  rw [e2, n2] at q11
  rw [l1] at q6
  rw [t2] at q8
  rw [p2] at q9
  rw [l2] at q10
  simp at q3 q6 q8 q9 q10 q11
  clear g4 e0 e2 n0 n2 d0 d1 d2 t0 t1 t2 p0 p1 p2 l0 l1 l2 hsp hs hmk
  go_wp2_with fail
  go_ret
  exact ⟨rfl, ((Chg.refl _ w).alloc _).trans hc⟩

set_option maxRecDepth 100000 in
set_option maxHeartbeats 1000000 in
theorem sj_long (turn place at_ way : Int) (v : Value) (w : World) (l : List UInt8) (hv : RB w v l) (hl : 600 < l.length) :
    Calls Try.prog 4 #[.int .u32 turn, .int .u32 place, v, .int .u8 at_, .int .u8 way] w fun e w' => e = .returned (.bool true) ∧ Chg (fun _ => False) w w' := by
  obtain ⟨a, c, rfl⟩ := hv.form
  have hl' : (600 : Int) < (l.length : Int) := by omega
  go_enter Try.func4, Try.ntmps4
  go_wp2_with fail
  refine (lives09 w).mono ?_
  rintro e w1 ⟨rfl, c1⟩
  go_wp2_with fail
  refine (lives09 w1).mono ?_
  rintro e w2 ⟨rfl, c2⟩
  go_wp2_with fail
  go_ret
  exact ⟨rfl, c1.trans c2⟩

set_option maxRecDepth 100000 in
set_option maxHeartbeats 1000000 in
theorem sj_zero (place at_ way : Int) (v : Value) (w : World) (l : List UInt8) (hv : RB w v l) (hl : l.length ≤ 600) :
    Calls Try.prog 4 #[.int .u32 0, .int .u32 place, v, .int .u8 at_, .int .u8 way] w fun e w' => e = .returned (.bool true) ∧ Chg (fun _ => False) w w' := by
  obtain ⟨a, c, rfl⟩ := hv.form
  have hl' : (l.length : Int) ≤ 600 := by omega
  by_cases hz : ((l.length : Int) + 46) / 47 = 0
  all_goals
    have hb : (((l.length : Int) + 46) / 47 == 0) = decide (((l.length : Int) + 46) / 47 = 0) := rfl
    simp only [hz, decide_true, decide_false] at hb
    go_enter Try.func4, Try.ntmps4
    go_wp2_with fail
    refine (lives09 w).mono ?_
    rintro e w1 ⟨rfl, c1⟩
    go_wp2_with fail
    refine (split_arg _ _ _ l (hv.kept c1 (fun _ _ h => h)) hl).mono ?_
    rintro e w2 ⟨rfl, rfl⟩
    go_wp2_with fail
    go_ret
    exact ⟨rfl, c1⟩

theorem splits_data (turn place : Nat) (l : List UInt8) (n : Nat) (ss : List Sec) (h : Splits turn place l n n ss) (hn : n = max ((l.length + 46) / 47) 1) : dataOf ss = l := by
  have key : ∀ k, k ≤ n → dataOf (ss.take k) = l.take (47 * k) := by
    intro k
    induction k with
    | zero => intro _; simp [dataOf]
    | succ k ih =>
      intro hk
      have hlt : k < ss.length := by rw [h.1]; omega
      obtain ⟨_, _, _, h4⟩ := h.2 k ss[k] (List.getElem?_eq_getElem hlt)
      rw [List.take_add_one, List.getElem?_eq_getElem hlt]
      simp only [dataOf, Option.toList_some, List.flatMap_append, List.flatMap_cons, List.flatMap_nil, List.append_nil] at *
      rw [ih (by omega), h4, Nat.mul_succ, List.take_add]
  have := key n (Nat.le_refl n)
  rw [List.take_of_length_le (by rw [h.1]; exact Nat.le_refl n)] at this
  rw [this, List.take_of_length_le (by omega)]
theorem splits_joins (turn place : Nat) (l : List UInt8) (n : Nat) (ss : List Sec) (h : Splits turn place l n n ss) (hn : n = max ((l.length + 46) / 47) 1) (hp : place + n ≤ 4294967296) : Joins ss := by
  have hlen := h.1
  refine ⟨fun h0 => by rw [h0] at hlen; simp at hlen; omega, fun i hi => ?_, ss[n - 1]'(by omega), ?_, ?_⟩
  · obtain ⟨t0, _, _, _⟩ := h.2 0 (ss[0]'(by omega)) (List.getElem?_eq_getElem (by omega))
    obtain ⟨ti, pi, _, _⟩ := h.2 i (ss[i]) (List.getElem?_eq_getElem hi)
    refine ⟨ss[i], ss[0]'(by omega), List.getElem?_eq_getElem hi, List.getElem?_eq_getElem (by omega), by rw [t0, ti], fun h0 => ?_⟩
    obtain ⟨tp, pp, lp, _⟩ := h.2 (i - 1) (ss[i - 1]'(by omega)) (List.getElem?_eq_getElem (by omega))
    refine ⟨ss[i - 1]'(by omega), List.getElem?_eq_getElem (by omega), by rw [pi, pp]; omega, by rw [pi]; omega, ?_⟩
    rw [lp]; simp; omega
  · rw [show ss.length - 1 = n - 1 by omega]; exact List.getElem?_eq_getElem (by omega)
  · obtain ⟨_, _, ll, _⟩ := h.2 (n - 1) (ss[n - 1]'(by omega)) (List.getElem?_eq_getElem (by omega))
    rw [ll]; simp; omega
theorem ssl_front (w : World) (a : Option Addr) (n c q : Nat) (h : q ≤ c) :
    (Instr.sliceAt 34 (.slice a n c) none (some (.int .i64 q)) (some (.int .i64 q))).run Try.prog w = .ok (.slice a q q) w := by
  have h4 : (q : Int) ≤ c := by omega
  have e : ∀ x : Addr, x.add 0 = x := fun x => by simp [Addr.add]
  simp [go_sem, Instr.sliceAt, Instr.slice, Instr.sliceBounds, h4, e]
theorem ssl_tail (w : World) (a : Option Addr) (n c q : Nat) (h : q + 1 ≤ n) :
    (Instr.sliceAt 34 (.slice a n c) (some (.int .i64 ((q : Int) + 1))) none none).run Try.prog w = .ok (.slice (if c = q + 1 then a else a.map (·.add ((q + 1) * 4))) (n - (q + 1)) (c - (q + 1))) w := by
  have h4 : (q : Int) + 1 ≤ n := by omega
  have h5 : (0 : Int) ≤ (q : Int) + 1 := by omega
  have h6 : ((q : Int) + 1).toNat = q + 1 := by omega
  simp [go_sem, Instr.sliceAt, Instr.slice, Instr.sliceBounds, h4, h5, h6]
theorem flat_one (ss : List Sec) {w : World} (h : ∀ s ∈ ss, RB w s.dv s.data) : ∀ u ∈ flat ss, u.oneCell' = true := by
  intro u hu
  simp only [flat, List.mem_flatMap] at hu
  obtain ⟨s, hs, hu⟩ := hu
  obtain ⟨a, c, e⟩ := (h s hs).form
  simp only [Sec.cells, e, List.mem_cons, List.not_mem_nil, or_false] at hu
  rcases hu with rfl | rfl | rfl | rfl <;> rfl
/-- How many sectors a record has, as the law reckons it. -/
theorem secs_n (len : Nat) : max ((len + 46) / 47) 1 = if (len + 46) / 47 = 0 then 1 else (len + 46) / 47 := by split <;> omega

set_option maxRecDepth 100000 in
set_option maxHeartbeats 1000000 in
theorem sj_range (turn place : Nat) (at_ way : Int) (v : Value) (w : World) (l : List UInt8) (hv : RB w v l) (hp : place < 4294967296) (hl : l.length ≤ 600) (h0 : turn ≠ 0) (hq : ¬ place + max ((l.length + 46) / 47) 1 - 1 < 4294967296) :
    Calls Try.prog 4 #[.int .u32 turn, .int .u32 place, v, .int .u8 at_, .int .u8 way] w fun e w' => e = .returned (.bool true) ∧ Chg (fun _ => False) w w' := by
  obtain ⟨a, c, rfl⟩ := hv.form
  have hl' : (l.length : Int) ≤ 600 := by omega
  have e0 : ((turn : Int) == 0) = false := by simp; omega
  have HQ := Lib.hid hq
  have HP := Lib.hid hp
  have H0 := Lib.hid h0
  obtain ⟨n, hn⟩ : ∃ n, n = max ((l.length + 46) / 47) 1 := ⟨_, rfl⟩
  have hnn : ((l.length : Int) + 46) / 47 = (n : Int) := by omega
  have hb : ((n : Int) == 0) = false := by simp; omega
  have hgt : 4294967295 < (place : Int) + ((n : Int) - 1) := by omega
  have hn1 : n ≤ 13 := by omega
  have hn2 : 1 ≤ n := by omega
  clear hq h0 hn
  go_enter Try.func4, Try.ntmps4
  go_wp2_with fail
  refine (lives09 w).mono ?_
  rintro e w1 ⟨rfl, c1⟩
  go_wp2_with fail
  refine (split_range turn place _ _ l (hv.kept c1 (fun _ _ h => h)) HP.out hl H0.out HQ.out).mono ?_
  rintro e w2 ⟨rfl, rfl⟩
  go_wp2_with fail
  go_ret
  exact ⟨rfl, c1⟩

/-- What is known behind 'append([]Sector{}, l...)'. -/
theorem sj_bad {w w1 w2 w3 wr w5 : World} {sa : Option Addr} {k sc : Nat} {bv : Value} {ss : List Sec} (HS : Sectors w1 w2 (.slice sa k sc) ss) (hk : 1 ≤ k)
    (c1 : Chg (fun _ => False) w w1) (c2 : Chg (fun _ => False) w1 w2) (c3 : Chg (fun _ => False) w2 w3) (c4 : Chg (fun _ => False) w3 wr)
    (own5 : Owns w5 4 bv (0 + k) ([] ++ flat ss)) (c5 : Chg (fun x => (Value.slice (some ⟨wr.heap.size, 0, none⟩) 0 0).ownBlock = some x) (wr.alloc (.cells #[] 42)) w5)
    (in5 : ∀ x, bv.ownBlock = some x → (Value.slice (some ⟨wr.heap.size, 0, none⟩) 0 0).ownBlock = some x ∨ x = (wr.alloc (.cells #[] 42)).heap.size) :
    Hid (∀ s ∈ ss, RB w5 s.dv s.data ∧ ∀ x, s.dv.ownBlock = some x → x ≠ bv.ownBlock.getD 0) ∧ ∃ g o c', bv = .slice (some ⟨g, o, none⟩) k c' ∧ k ≤ c' ∧ g < w5.heap.size ∧ w.heap.size ≤ g ∧ Chg (fun _ => False) w w5 ∧
      Hid (Owns w5 4 (.slice (some ⟨g, o, none⟩) k c') k (flat ss)) ∧ Hid (∀ (j : Nat) (u : Value), (flat ss)[j]? = some u → w5.cell? ⟨g, o + j, none⟩ = some u) ∧ Hid (∀ j, j < k * 4 → w5.frozen? ⟨g, o + j, none⟩ = false) := by
  rw [Nat.zero_add, List.nil_append] at own5
  rcases own5.2 with ⟨_, hh⟩ | ⟨g, o, c', rfl, g1, g2, g3, g4, g5⟩
  · exfalso; omega
  have z1 := c1.size
  have z2 := c2.size
  have z3 := c3.size
  have z4 := c4.size
  have hin : wr.heap.size ≤ g := (in5 g rfl).elim (fun h => by simp [Value.ownBlock] at h; omega) (fun h => by simp at h; omega)
  refine ⟨fun s hs => ⟨?_, fun x hx e => ?_⟩, g, o, c', rfl, g1, g3, by omega, ?_, own5, g4, fun j hj => (g5 j (Nat.lt_of_lt_of_le hj (Nat.mul_le_mul_right 4 g1))).2⟩
  · have r := (HS.data s hs).1.kept (c3.trans c4) (fun _ _ h => h)
    exact (r.alloc _).kept c5 (fun x hx hx' => by have := r.lt' x hx; simp [Value.ownBlock] at hx'; omega)
  · have r := (HS.data s hs).1.kept (c3.trans c4) (fun _ _ h => h)
    have := r.lt' x hx
    simp [Value.ownBlock] at e; omega
  · exact ((((c1.trans c2).trans c3).trans c4).alloc _).new c5 (fun x hx => by simp [Value.ownBlock] at hx; subst hx; omega)

set_option maxRecDepth 100000 in
set_option maxHeartbeats 1000000 in
theorem sj_D1 (turn place : Nat) (at_ way : Int) (v : Value) (w : World) (l : List UInt8) (hv : RB w v l) (ht : turn < 4294967296) (hp : place < 4294967296) (hl : l.length ≤ 600) (h0 : turn ≠ 0) (hq : place + max ((l.length + 46) / 47) 1 - 1 < 4294967296)
    (ha0 : 0 ≤ at_) (ha1 : at_ < 256) (hw0 : 0 ≤ way) (hw1 : way < 256) (hne : 0 < l.length) (hcase : way % 3 = 1) (hpos : at_ % (max ((l.length + 46) / 47) 1 : Nat) = 0) :
    Calls Try.prog 4 #[.int .u32 turn, .int .u32 place, v, .int .u8 at_, .int .u8 way] w fun e w' => e = .returned (.bool true) ∧ Chg (fun _ => False) w w' := by
  obtain ⟨a, c, rfl⟩ := hv.form
  have hl' : (l.length : Int) ≤ 600 := by omega
  have e0 : ((turn : Int) == 0) = false := by simp; omega
  obtain ⟨n, hn⟩ : ∃ n, n = max ((l.length + 46) / 47) 1 := ⟨_, rfl⟩
  have hnn : ((l.length : Int) + 46) / 47 = (n : Int) := by omega
  have hn1 : 1 ≤ n := by omega
  have hn2 : n ≤ 13 := by omega
  have hb : ((n : Int) == 0) = false := by simp; omega
  have hle : (place : Int) + ((n : Int) - 1) ≤ 4294967295 := by omega
  have HQ := Lib.hid hq
  have HN := Lib.hid hn
  have HV := Lib.hid hv
  clear hq hn hv
  go_enter Try.func4, Try.ntmps4
  go_wp2_with fail
  refine (lives09 w).mono ?_
  rintro e w1 ⟨rfl, c1⟩
  go_wp2_with fail
  refine (split_any turn place _ _ l (HV.out.kept c1 (fun _ _ h => h)) ht hp hl h0 HQ.out).mono ?_
  rintro e w2 ⟨sv, ss, rfl, hs, hsp, c2⟩
  rw [← HN.out] at hsp
  have hlen := hsp.1
  have hown := hs.own
  rw [hlen] at hown
  obtain ⟨sa, sc, rfl⟩ := hown.form
  have HS := Lib.hid hs
  have HSP := Lib.hid hsp
  have HO := Lib.hid hown
  have HLEN := Lib.hid hlen
  clear hs hsp hown hlen
  go_wp2_with fail
  rw [hnn]
  clear hnn
  have hsec : ∀ s ∈ ss, s.turn < 4294967296 ∧ s.place < 4294967296 := fun s hs => by
    obtain ⟨i, hi⟩ := List.getElem?_of_mem hs
    obtain ⟨h1, h2, _⟩ := HSP.out.2 i s hi
    have := (List.getElem?_eq_some_iff.1 hi).1
    have := HLEN.out
    omega
  have hdl : ∀ s ∈ ss, s.data.length ≤ 47 := fun s hs => by
    obtain ⟨i, hi⟩ := List.getElem?_of_mem hs
    obtain ⟨_, _, _, h4⟩ := HSP.out.2 i s hi
    rw [h4]; exact List.length_take_le _ _
  have HSEC := Lib.hid hsec
  have HDL := Lib.hid hdl
  clear hsec hdl
  refine (join_any _ _ ss HS.out.own.reads (fun s hs => (HS.out.data s hs).1) HSEC.out (by rw [HLEN.out]; omega) (fun s hs => by have := HDL.out s hs; omega)).mono ?_
  rintro e w3 ⟨jv, er, rfl, c3, hj⟩
  obtain ⟨hjo, rfl, hob⟩ : Joins ss ∧ er = 0 ∧ OB w3 jv (dataOf ss) := by
    rcases hj with h | h
    · exact h
    · exact absurd (splits_joins turn place l n ss HSP.out HN.out (by have := HQ.out; omega)) h.1
  rw [splits_data turn place l n ss HSP.out HN.out] at hob
  have hcv := convb w3 jv l hob.rb
  have hcd := convb w3 _ l ((HV.out.kept (c1.trans c2) (fun _ _ h => h)).kept c3 (fun _ _ h => h))
  have HJ := Lib.hid hj
  have HJO := Lib.hid hjo
  clear hj hjo
  go_wp2_with fail
  clear hcv hcd
  go_loopw [94] (fun i wr => ∃ k : Nat, k ≤ n ∧ i = .int .i64 k ∧ Chg (fun _ => False) w3 wr) (fun i _ => n - (intOf i).toNat)
  case atStart => exact ⟨0, by omega, rfl, Chg.refl _ _⟩
  case round =>
    obtain ⟨k, hk, rfl, c4⟩ := hrel
    by_cases hlt : k < n
    · obtain ⟨s, hs⟩ : ∃ s, ss[k]? = some s := ⟨_, List.getElem?_eq_getElem (by rw [HLEN.out]; exact hlt)⟩
      obtain ⟨st, sp, sl, sd⟩ := HSP.out.2 k s hs
      obtain ⟨da, dc, hdv⟩ := (HS.out.data s (List.mem_of_getElem? hs)).1.form
      rcases HO.out.2 with ⟨_, hh⟩ | ⟨g, o, c', hsv, g1, g2, g3, g4, _⟩
      · exfalso; omega
      simp only [Value.slice.injEq, true_and] at hsv
      obtain ⟨rfl, rfl⟩ := hsv
      have q0 : wr.cell? ⟨g, o + k * 4, none⟩ = some (.int .u32 turn) := by rw [← st]; exact (c3.trans c4).cell (g4 (k * 4) _ (flat_get ss k 0 s hs (by omega))) (fun h => h)
      have q1 : wr.cell? ⟨g, o + k * 4 + 1, none⟩ = some (.int .u32 ((place : Int) + k)) := by rw [show ((place : Int) + k) = ((s.place : Nat) : Int) by omega]; exact (c3.trans c4).cell (g4 (k * 4 + 1) _ (flat_get ss k 1 s hs (by omega))) (fun h => h)
      have q2 : wr.cell? ⟨g, o + k * 4 + 2, none⟩ = some (.bool (decide ((k : Int) = (n : Int) - 1))) := by rw [← sl]; exact (c3.trans c4).cell (g4 (k * 4 + 2) _ (flat_get ss k 2 s hs (by omega))) (fun h => h)
      have q3 : wr.cell? ⟨g, o + k * 4 + 3, none⟩ = some (.slice da s.data.length dc) := by rw [← hdv]; exact (c3.trans c4).cell (g4 (k * 4 + 3) _ (flat_get ss k 3 s hs (by omega))) (fun h => h)
      have hgl : g < wr.heap.size := Nat.lt_of_lt_of_le g3 (c3.trans c4).size
      by_cases hkl : k + 1 = n
      · have hd : decide ((k : Int) = (n : Int) - 1) = true := by simp; omega
        have hd2 : ((k : Int) == (n : Int) - 1) = true := by simp; omega
        rw [hd] at q2
        have HK := Lib.hid hkl
        clear g4 hs st sp sl sd hdv hkl hd
        go_wp2_with fail
        exact ⟨⟨k + 1, by omega, rfl, c4.alloc _⟩, by simp only [intOf]; omega⟩
      · have hlt2 : (k : Int) < (n : Int) - 1 := by omega
        have hd : decide ((k : Int) = (n : Int) - 1) = false := by simp; omega
        have hd2 : ((k : Int) == (n : Int) - 1) = false := by simp; omega
        have hdl : s.data.length = 47 := by
          have := HN.out
          rw [sd]; simp; omega
        rw [hd] at q2
        rw [hdl] at q3
        clear g4 hs st sp sl sd hdv hd hdl
        go_wp2_with fail
        exact ⟨⟨k + 1, by omega, rfl, c4.alloc _⟩, by simp only [intOf]; omega⟩
    · obtain rfl : k = n := by omega
      obtain ⟨i0, hi, hz0, hz1, hz2⟩ := info_parts Try.info42
      have hown3 := HO.out.kept (c3.trans c4) (fun _ _ h => h)
      obtain ⟨s, hs⟩ : ∃ s, ss[0]? = some s := ⟨_, List.getElem?_eq_getElem (by rw [HLEN.out]; omega)⟩
      have hq : at_ % (k : Int) = 0 := by have h1 := HN.out; rw [← h1] at hpos; exact hpos
      have HSS := Lib.hid hs
      clear hs hpos
      have e3 : (way % 3 == 0) = false := by simp; omega
      have e4 : (way % 3 == 1) = true := by simp; omega
      go_wp2_with (at_builtin; go_loud (refine wpList_app rfl _ _ 34 rfl 42 i0 (.agg #[.int .u32 0, .int .u32 0, .bool false, .slice none 0 0]) 4 40 Try.underlying34 hi hz0 hz1 hz2 rfl (.slice (some ⟨wr.heap.size, 0, none⟩) 0 0) 0 [] rfl (Owns.empty wr 42 4) (.slice sa k sc) k (flat ss) rfl (hown3.reads.alloc _) (flat_one ss (fun s hs => (HS.out.data s hs).1)) (by simp only [maxLen]; omega) (by omega) ?_; intro bv w5 own5 c5 in5 nn5; obtain ⟨R5, g, o, c', rfl, g1, g3, hin, d5, OWN5, G4, F4⟩ := sj_bad HS.out hn1 c1 c2 c3 c4 own5 c5 in5; clear own5 in5 nn5 hown3; have q2 : w5.cell? ⟨g, o + 2, none⟩ = some (.bool s.last) := G4.out 2 _ (flat_get ss 0 2 s HSS.out (by omega)); have qf : w5.frozen? ⟨g, o + 2, none⟩ = false := F4.out 2 (by omega)))
      have own6 := OWN5.out.set 2 [.bool (!s.last)] (by simp; omega)
      have e6 := flat_cell ss 0 2 s { s with last := !s.last } (.bool (!s.last)) HSS.out (by omega) rfl
      simp only [Nat.zero_mul, Nat.zero_add] at e6
      rw [e6] at own6
      have hls : (ss.set 0 { s with last := !s.last }).length = k := by rw [List.length_set]; exact HLEN.out
      refine (join_any _ (w5.setCells g (o + 2) [.bool (!s.last)]) (ss.set 0 { s with last := !s.last }) (by rw [hls]; exact own6.reads) ?_ ?_ (by rw [hls]; omega) ?_).mono ?_
      · exact fun t ht => by
          have c6 := (Chg.setCells w5 g (o + 2) [.bool (!s.last)])
          rcases List.mem_or_eq_of_mem_set ht with h | rfl
          · exact (R5.out t h).1.kept c6 (fun x hx e => (R5.out t h).2 x hx e)
          · exact (R5.out s (List.mem_of_getElem? HSS.out)).1.kept c6 (fun x hx e => (R5.out s (List.mem_of_getElem? HSS.out)).2 x hx e)
      · exact fun t ht => by
          rcases List.mem_or_eq_of_mem_set ht with h | rfl
          · exact HSEC.out t h
          · exact HSEC.out s (List.mem_of_getElem? HSS.out)
      · exact fun t ht => by
          rcases List.mem_or_eq_of_mem_set ht with h | rfl
          · have := HDL.out t h; omega
          · have := HDL.out s (List.mem_of_getElem? HSS.out); exact Nat.le_trans this (by omega)
      rintro e w6 ⟨v6, er6, rfl, c6, hj6⟩
      rcases hj6 with h6 | ⟨_, her, rfl⟩
      · exact absurd h6.1 (bad_last HSP.out (by omega) s HSS.out)
      rcases her with rfl | rfl
      all_goals
        go_wp2_with fail
        go_ret
        exact ⟨rfl, (d5.new (Chg.setCells w5 g (o + 2) [.bool (!s.last)]) (fun x hx => by subst hx; exact hin)).trans c6⟩

set_option maxRecDepth 100000 in
set_option maxHeartbeats 1000000 in
theorem sj_D2 (turn place : Nat) (at_ way : Int) (v : Value) (w : World) (l : List UInt8) (hv : RB w v l) (ht : turn < 4294967296) (hp : place < 4294967296) (hl : l.length ≤ 600) (h0 : turn ≠ 0) (hq : place + max ((l.length + 46) / 47) 1 - 1 < 4294967296)
    (ha0 : 0 ≤ at_) (ha1 : at_ < 256) (hw0 : 0 ≤ way) (hw1 : way < 256) (hne : 0 < l.length) (hcase : way % 3 = 2) (hpos : at_ % (max ((l.length + 46) / 47) 1 : Nat) = 0) :
    Calls Try.prog 4 #[.int .u32 turn, .int .u32 place, v, .int .u8 at_, .int .u8 way] w fun e w' => e = .returned (.bool true) ∧ Chg (fun _ => False) w w' := by
  obtain ⟨a, c, rfl⟩ := hv.form
  have hl' : (l.length : Int) ≤ 600 := by omega
  have e0 : ((turn : Int) == 0) = false := by simp; omega
  obtain ⟨n, hn⟩ : ∃ n, n = max ((l.length + 46) / 47) 1 := ⟨_, rfl⟩
  have hnn : ((l.length : Int) + 46) / 47 = (n : Int) := by omega
  have hn1 : 1 ≤ n := by omega
  have hn2 : n ≤ 13 := by omega
  have hb : ((n : Int) == 0) = false := by simp; omega
  have hle : (place : Int) + ((n : Int) - 1) ≤ 4294967295 := by omega
  have HQ := Lib.hid hq
  have HN := Lib.hid hn
  have HV := Lib.hid hv
  clear hq hn hv
  go_enter Try.func4, Try.ntmps4
  go_wp2_with fail
  refine (lives09 w).mono ?_
  rintro e w1 ⟨rfl, c1⟩
  go_wp2_with fail
  refine (split_any turn place _ _ l (HV.out.kept c1 (fun _ _ h => h)) ht hp hl h0 HQ.out).mono ?_
  rintro e w2 ⟨sv, ss, rfl, hs, hsp, c2⟩
  rw [← HN.out] at hsp
  have hlen := hsp.1
  have hown := hs.own
  rw [hlen] at hown
  obtain ⟨sa, sc, rfl⟩ := hown.form
  have HS := Lib.hid hs
  have HSP := Lib.hid hsp
  have HO := Lib.hid hown
  have HLEN := Lib.hid hlen
  clear hs hsp hown hlen
  go_wp2_with fail
  rw [hnn]
  clear hnn
  have hsec : ∀ s ∈ ss, s.turn < 4294967296 ∧ s.place < 4294967296 := fun s hs => by
    obtain ⟨i, hi⟩ := List.getElem?_of_mem hs
    obtain ⟨h1, h2, _⟩ := HSP.out.2 i s hi
    have := (List.getElem?_eq_some_iff.1 hi).1
    have := HLEN.out
    omega
  have hdl : ∀ s ∈ ss, s.data.length ≤ 47 := fun s hs => by
    obtain ⟨i, hi⟩ := List.getElem?_of_mem hs
    obtain ⟨_, _, _, h4⟩ := HSP.out.2 i s hi
    rw [h4]; exact List.length_take_le _ _
  have HSEC := Lib.hid hsec
  have HDL := Lib.hid hdl
  clear hsec hdl
  refine (join_any _ _ ss HS.out.own.reads (fun s hs => (HS.out.data s hs).1) HSEC.out (by rw [HLEN.out]; omega) (fun s hs => by have := HDL.out s hs; omega)).mono ?_
  rintro e w3 ⟨jv, er, rfl, c3, hj⟩
  obtain ⟨hjo, rfl, hob⟩ : Joins ss ∧ er = 0 ∧ OB w3 jv (dataOf ss) := by
    rcases hj with h | h
    · exact h
    · exact absurd (splits_joins turn place l n ss HSP.out HN.out (by have := HQ.out; omega)) h.1
  rw [splits_data turn place l n ss HSP.out HN.out] at hob
  have hcv := convb w3 jv l hob.rb
  have hcd := convb w3 _ l ((HV.out.kept (c1.trans c2) (fun _ _ h => h)).kept c3 (fun _ _ h => h))
  have HJ := Lib.hid hj
  have HJO := Lib.hid hjo
  clear hj hjo
  go_wp2_with fail
  clear hcv hcd
  go_loopw [94] (fun i wr => ∃ k : Nat, k ≤ n ∧ i = .int .i64 k ∧ Chg (fun _ => False) w3 wr) (fun i _ => n - (intOf i).toNat)
  case atStart => exact ⟨0, by omega, rfl, Chg.refl _ _⟩
  case round =>
    obtain ⟨k, hk, rfl, c4⟩ := hrel
    by_cases hlt : k < n
    · obtain ⟨s, hs⟩ : ∃ s, ss[k]? = some s := ⟨_, List.getElem?_eq_getElem (by rw [HLEN.out]; exact hlt)⟩
      obtain ⟨st, sp, sl, sd⟩ := HSP.out.2 k s hs
      obtain ⟨da, dc, hdv⟩ := (HS.out.data s (List.mem_of_getElem? hs)).1.form
      rcases HO.out.2 with ⟨_, hh⟩ | ⟨g, o, c', hsv, g1, g2, g3, g4, _⟩
      · exfalso; omega
      simp only [Value.slice.injEq, true_and] at hsv
      obtain ⟨rfl, rfl⟩ := hsv
      have q0 : wr.cell? ⟨g, o + k * 4, none⟩ = some (.int .u32 turn) := by rw [← st]; exact (c3.trans c4).cell (g4 (k * 4) _ (flat_get ss k 0 s hs (by omega))) (fun h => h)
      have q1 : wr.cell? ⟨g, o + k * 4 + 1, none⟩ = some (.int .u32 ((place : Int) + k)) := by rw [show ((place : Int) + k) = ((s.place : Nat) : Int) by omega]; exact (c3.trans c4).cell (g4 (k * 4 + 1) _ (flat_get ss k 1 s hs (by omega))) (fun h => h)
      have q2 : wr.cell? ⟨g, o + k * 4 + 2, none⟩ = some (.bool (decide ((k : Int) = (n : Int) - 1))) := by rw [← sl]; exact (c3.trans c4).cell (g4 (k * 4 + 2) _ (flat_get ss k 2 s hs (by omega))) (fun h => h)
      have q3 : wr.cell? ⟨g, o + k * 4 + 3, none⟩ = some (.slice da s.data.length dc) := by rw [← hdv]; exact (c3.trans c4).cell (g4 (k * 4 + 3) _ (flat_get ss k 3 s hs (by omega))) (fun h => h)
      have hgl : g < wr.heap.size := Nat.lt_of_lt_of_le g3 (c3.trans c4).size
      by_cases hkl : k + 1 = n
      · have hd : decide ((k : Int) = (n : Int) - 1) = true := by simp; omega
        have hd2 : ((k : Int) == (n : Int) - 1) = true := by simp; omega
        rw [hd] at q2
        have HK := Lib.hid hkl
        clear g4 hs st sp sl sd hdv hkl hd
        go_wp2_with fail
        exact ⟨⟨k + 1, by omega, rfl, c4.alloc _⟩, by simp only [intOf]; omega⟩
      · have hlt2 : (k : Int) < (n : Int) - 1 := by omega
        have hd : decide ((k : Int) = (n : Int) - 1) = false := by simp; omega
        have hd2 : ((k : Int) == (n : Int) - 1) = false := by simp; omega
        have hdl : s.data.length = 47 := by
          have := HN.out
          rw [sd]; simp; omega
        rw [hd] at q2
        rw [hdl] at q3
        clear g4 hs st sp sl sd hdv hd hdl
        go_wp2_with fail
        exact ⟨⟨k + 1, by omega, rfl, c4.alloc _⟩, by simp only [intOf]; omega⟩
    · obtain rfl : k = n := by omega
      obtain ⟨i0, hi, hz0, hz1, hz2⟩ := info_parts Try.info42
      have hown3 := HO.out.kept (c3.trans c4) (fun _ _ h => h)
      obtain ⟨s, hs⟩ : ∃ s, ss[0]? = some s := ⟨_, List.getElem?_eq_getElem (by rw [HLEN.out]; omega)⟩
      have hq : at_ % (k : Int) = 0 := by have h1 := HN.out; rw [← h1] at hpos; exact hpos
      have HSS := Lib.hid hs
      clear hs hpos
      have e3 : (way % 3 == 0) = false := by simp; omega
      have e4 : (way % 3 == 1) = false := by simp; omega
      go_wp2_with (at_builtin; go_loud (refine wpList_app rfl _ _ 34 rfl 42 i0 (.agg #[.int .u32 0, .int .u32 0, .bool false, .slice none 0 0]) 4 40 Try.underlying34 hi hz0 hz1 hz2 rfl (.slice (some ⟨wr.heap.size, 0, none⟩) 0 0) 0 [] rfl (Owns.empty wr 42 4) (.slice sa k sc) k (flat ss) rfl (hown3.reads.alloc _) (flat_one ss (fun s hs => (HS.out.data s hs).1)) (by simp only [maxLen]; omega) (by omega) ?_; intro bv w5 own5 c5 in5 nn5; obtain ⟨R5, g, o, c', rfl, g1, g3, hin, d5, OWN5, G4, F4⟩ := sj_bad HS.out hn1 c1 c2 c3 c4 own5 c5 in5; clear own5 in5 nn5 hown3; have q2 : w5.cell? ⟨g, o + 2, none⟩ = some (.bool s.last) := G4.out 2 _ (flat_get ss 0 2 s HSS.out (by omega)); have qf : w5.frozen? ⟨g, o + 2, none⟩ = false := F4.out 2 (by omega)))
      have own6 := OWN5.out.set 2 [.bool (!s.last)] (by simp; omega)
      have e6 := flat_cell ss 0 2 s { s with last := !s.last } (.bool (!s.last)) HSS.out (by omega) rfl
      simp only [Nat.zero_mul, Nat.zero_add] at e6
      rw [e6] at own6
      have hls : (ss.set 0 { s with last := !s.last }).length = k := by rw [List.length_set]; exact HLEN.out
      refine (join_any _ (w5.setCells g (o + 2) [.bool (!s.last)]) (ss.set 0 { s with last := !s.last }) (by rw [hls]; exact own6.reads) ?_ ?_ (by rw [hls]; omega) ?_).mono ?_
      · exact fun t ht => by
          have c6 := (Chg.setCells w5 g (o + 2) [.bool (!s.last)])
          rcases List.mem_or_eq_of_mem_set ht with h | rfl
          · exact (R5.out t h).1.kept c6 (fun x hx e => (R5.out t h).2 x hx e)
          · exact (R5.out s (List.mem_of_getElem? HSS.out)).1.kept c6 (fun x hx e => (R5.out s (List.mem_of_getElem? HSS.out)).2 x hx e)
      · exact fun t ht => by
          rcases List.mem_or_eq_of_mem_set ht with h | rfl
          · exact HSEC.out t h
          · exact HSEC.out s (List.mem_of_getElem? HSS.out)
      · exact fun t ht => by
          rcases List.mem_or_eq_of_mem_set ht with h | rfl
          · have := HDL.out t h; omega
          · have := HDL.out s (List.mem_of_getElem? HSS.out); exact Nat.le_trans this (by omega)
      rintro e w6 ⟨v6, er6, rfl, c6, hj6⟩
      rcases hj6 with h6 | ⟨_, her, rfl⟩
      · exact absurd h6.1 (bad_last HSP.out (by omega) s HSS.out)
      rcases her with rfl | rfl
      all_goals
        go_wp2_with fail
        go_ret
        exact ⟨rfl, (d5.new (Chg.setCells w5 g (o + 2) [.bool (!s.last)]) (fun x hx => by subst hx; exact hin)).trans c6⟩

end Go.Proofs.Ytncgeeaifacapaa
