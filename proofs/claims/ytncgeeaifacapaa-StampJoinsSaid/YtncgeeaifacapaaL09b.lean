/- The law StampJoins, its walk: one of another turn; two turned round. -/
import Derived.Test.YtncgeeaifacapaaL09a
namespace Go.Proofs.Ytncgeeaifacapaa
open Go.RowKit Go.Cat

set_option maxRecDepth 100000 in
set_option maxHeartbeats 1000000 in
theorem sj_C (turn place : Nat) (at_ way : Int) (v : Value) (w : World) (l : List UInt8) (hv : RB w v l) (ht : turn < 4294967296) (hp : place < 4294967296) (hl : l.length ≤ 600) (h0 : turn ≠ 0) (hq : place + max ((l.length + 46) / 47) 1 - 1 < 4294967296)
    (ha0 : 0 ≤ at_) (ha1 : at_ < 256) (hw0 : 0 ≤ way) (hw1 : way < 256) (hne : 0 < l.length) (hcase : way % 3 = 2) (hpos : 0 < at_ % (max ((l.length + 46) / 47) 1 : Nat)) :
    Calls Try.prog 4 #[.int .u32 turn, .int .u32 place, v, .int .u8 at_, .int .u8 way] w fun e w' => e = .returned (.bool true) ∧ Chg (fun _ => False) w w' := by
  obtain ⟨a, c, rfl⟩ := hv.form
  have hl' : (l.length : Int) ≤ 600 := by omega
  have e0 : ((turn : Int) == 0) = false := by simp; omega
  obtain ⟨n, hn⟩ : ∃ n, n = max ((l.length + 46) / 47) 1 := ⟨_, rfl⟩
  have hnn : ((l.length : Int) + 46) / 47 = (n : Int) := by omega
  have hn1 : 1 ≤ n := by omega
  have hn2 : n ≤ 13 := by omega
  have hb : ((n : Int) == 0) = false := by simp; omega
  have hle : (place : Int) + ((n : Int) - 1) ≤ 4294967295 := by omega
  have HQ := Lib.hid hq
  have HN := Lib.hid hn
  have HV := Lib.hid hv
  clear hq hn hv
  go_enter Try.func4, Try.ntmps4
  go_wp2_with fail
  refine (lives09 w).mono ?_
  rintro e w1 ⟨rfl, c1⟩
  go_wp2_with fail
  refine (split_any turn place _ _ l (HV.out.kept c1 (fun _ _ h => h)) ht hp hl h0 HQ.out).mono ?_
  rintro e w2 ⟨sv, ss, rfl, hs, hsp, c2⟩
  rw [← HN.out] at hsp
  have hlen := hsp.1
  have hown := hs.own
  rw [hlen] at hown
  obtain ⟨sa, sc, rfl⟩ := hown.form
  have HS := Lib.hid hs
  have HSP := Lib.hid hsp
  have HO := Lib.hid hown
  have HLEN := Lib.hid hlen
  clear hs hsp hown hlen
  go_wp2_with fail
  rw [hnn]
  clear hnn
  have hsec : ∀ s ∈ ss, s.turn < 4294967296 ∧ s.place < 4294967296 := fun s hs => by
    obtain ⟨i, hi⟩ := List.getElem?_of_mem hs
    obtain ⟨h1, h2, _⟩ := HSP.out.2 i s hi
    have := (List.getElem?_eq_some_iff.1 hi).1
    have := HLEN.out
    omega
  have hdl : ∀ s ∈ ss, s.data.length ≤ 47 := fun s hs => by
    obtain ⟨i, hi⟩ := List.getElem?_of_mem hs
    obtain ⟨_, _, _, h4⟩ := HSP.out.2 i s hi
    rw [h4]; exact List.length_take_le _ _
  have HSEC := Lib.hid hsec
  have HDL := Lib.hid hdl
  clear hsec hdl
  refine (join_any _ _ ss HS.out.own.reads (fun s hs => (HS.out.data s hs).1) HSEC.out (by rw [HLEN.out]; omega) (fun s hs => by have := HDL.out s hs; omega)).mono ?_
  rintro e w3 ⟨jv, er, rfl, c3, hj⟩
  obtain ⟨hjo, rfl, hob⟩ : Joins ss ∧ er = 0 ∧ OB w3 jv (dataOf ss) := by
    rcases hj with h | h
    · exact h
    · exact absurd (splits_joins turn place l n ss HSP.out HN.out (by have := HQ.out; omega)) h.1
  rw [splits_data turn place l n ss HSP.out HN.out] at hob
  have hcv := convb w3 jv l hob.rb
  have hcd := convb w3 _ l ((HV.out.kept (c1.trans c2) (fun _ _ h => h)).kept c3 (fun _ _ h => h))
  have HJ := Lib.hid hj
  have HJO := Lib.hid hjo
  clear hj hjo
  go_wp2_with fail
  clear hcv hcd
  go_loopw [94] (fun i wr => ∃ k : Nat, k ≤ n ∧ i = .int .i64 k ∧ Chg (fun _ => False) w3 wr) (fun i _ => n - (intOf i).toNat)
  case atStart => exact ⟨0, by omega, rfl, Chg.refl _ _⟩
  case round =>
    obtain ⟨k, hk, rfl, c4⟩ := hrel
    by_cases hlt : k < n
    · obtain ⟨s, hs⟩ : ∃ s, ss[k]? = some s := ⟨_, List.getElem?_eq_getElem (by rw [HLEN.out]; exact hlt)⟩
      obtain ⟨st, sp, sl, sd⟩ := HSP.out.2 k s hs
      obtain ⟨da, dc, hdv⟩ := (HS.out.data s (List.mem_of_getElem? hs)).1.form
      rcases HO.out.2 with ⟨_, hh⟩ | ⟨g, o, c', hsv, g1, g2, g3, g4, _⟩
      · exfalso; omega
      simp only [Value.slice.injEq, true_and] at hsv
      obtain ⟨rfl, rfl⟩ := hsv
      have q0 : wr.cell? ⟨g, o + k * 4, none⟩ = some (.int .u32 turn) := by rw [← st]; exact (c3.trans c4).cell (g4 (k * 4) _ (flat_get ss k 0 s hs (by omega))) (fun h => h)
      have q1 : wr.cell? ⟨g, o + k * 4 + 1, none⟩ = some (.int .u32 ((place : Int) + k)) := by rw [show ((place : Int) + k) = ((s.place : Nat) : Int) by omega]; exact (c3.trans c4).cell (g4 (k * 4 + 1) _ (flat_get ss k 1 s hs (by omega))) (fun h => h)
      have q2 : wr.cell? ⟨g, o + k * 4 + 2, none⟩ = some (.bool (decide ((k : Int) = (n : Int) - 1))) := by rw [← sl]; exact (c3.trans c4).cell (g4 (k * 4 + 2) _ (flat_get ss k 2 s hs (by omega))) (fun h => h)
      have q3 : wr.cell? ⟨g, o + k * 4 + 3, none⟩ = some (.slice da s.data.length dc) := by rw [← hdv]; exact (c3.trans c4).cell (g4 (k * 4 + 3) _ (flat_get ss k 3 s hs (by omega))) (fun h => h)
      have hgl : g < wr.heap.size := Nat.lt_of_lt_of_le g3 (c3.trans c4).size
      by_cases hkl : k + 1 = n
      · have hd : decide ((k : Int) = (n : Int) - 1) = true := by simp; omega
        have hd2 : ((k : Int) == (n : Int) - 1) = true := by simp; omega
        rw [hd] at q2
        have HK := Lib.hid hkl
        clear g4 hs st sp sl sd hdv hkl hd
        go_wp2_with fail
        exact ⟨⟨k + 1, by omega, rfl, c4.alloc _⟩, by simp only [intOf]; omega⟩
      · have hlt2 : (k : Int) < (n : Int) - 1 := by omega
        have hd : decide ((k : Int) = (n : Int) - 1) = false := by simp; omega
        have hd2 : ((k : Int) == (n : Int) - 1) = false := by simp; omega
        have hdl : s.data.length = 47 := by
          have := HN.out
          rw [sd]; simp; omega
        rw [hd] at q2
        rw [hdl] at q3
        clear g4 hs st sp sl sd hdv hd hdl
        go_wp2_with fail
        exact ⟨⟨k + 1, by omega, rfl, c4.alloc _⟩, by simp only [intOf]; omega⟩
    · obtain rfl : k = n := by omega
      obtain ⟨i0, hi, hz0, hz1, hz2⟩ := info_parts Try.info42
      have hown3 := HO.out.kept (c3.trans c4) (fun _ _ h => h)
      obtain ⟨q, hq⟩ : ∃ q : Nat, at_ % (k : Int) = (q : Int) := ⟨(at_ % k).toNat, by rw [Int.toNat_of_nonneg (Int.emod_nonneg _ (by omega))]⟩
      have hqk : q < k := by have := Int.emod_lt_of_pos at_ (show (0 : Int) < k by omega); omega
      have hq0 : 0 < q := by have h1 := HN.out; rw [← h1] at hpos; omega
      obtain ⟨s, hs⟩ : ∃ s, ss[q]? = some s := ⟨_, List.getElem?_eq_getElem (by rw [HLEN.out]; omega)⟩
      have HSS := Lib.hid hs
      clear hs
      clear hpos
      have ST : Hid (s.turn = turn) := (HSP.out.2 q s HSS.out).1
      have e3 : (way % 3 == 0) = false := by simp; omega
      have e4 : (way % 3 == 1) = false := by simp; omega
      go_wp2_with (at_builtin; go_loud (refine wpList_app rfl _ _ 34 rfl 42 i0 (.agg #[.int .u32 0, .int .u32 0, .bool false, .slice none 0 0]) 4 40 Try.underlying34 hi hz0 hz1 hz2 rfl (.slice (some ⟨wr.heap.size, 0, none⟩) 0 0) 0 [] rfl (Owns.empty wr 42 4) (.slice sa k sc) k (flat ss) rfl (hown3.reads.alloc _) (flat_one ss (fun s hs => (HS.out.data s hs).1)) (by simp only [maxLen]; omega) (by omega) ?_; intro bv w5 own5 c5 in5 nn5; obtain ⟨R5, g, o, c', rfl, g1, g3, hin, d5, OWN5, G4, F4⟩ := sj_bad HS.out hn1 c1 c2 c3 c4 own5 c5 in5; clear own5 in5 nn5 hown3; have q0 : w5.cell? ⟨g, o + q * 4, none⟩ = some (.int .u32 turn) := (by rw [← ST.out]; exact G4.out (q * 4) _ (flat_get ss q 0 s HSS.out (by omega))); have qf : w5.frozen? ⟨g, o + q * 4, none⟩ = false := F4.out (q * 4) (by omega)))
      have own6 := OWN5.out.set (q * 4) [(.int .u32 (((turn : Int) + 1) % 4294967296))] (by simp; omega)
      have e6 := flat_cell ss q 0 s { s with turn := (turn + 1) % 4294967296 } (.int .u32 (((turn : Int) + 1) % 4294967296)) HSS.out (by omega) (by simp only [Sec.cells, List.set_cons_zero]; rw [Int.natCast_emod]; rfl)
      simp only [Nat.add_zero] at e6
      rw [e6] at own6
      have hls : (ss.set q { s with turn := (turn + 1) % 4294967296 }).length = k := by rw [List.length_set]; exact HLEN.out
      refine (join_any _ (w5.setCells g (o + q * 4) [(.int .u32 (((turn : Int) + 1) % 4294967296))]) (ss.set q { s with turn := (turn + 1) % 4294967296 }) (by rw [hls]; exact own6.reads) ?_ ?_ (by rw [hls]; omega) ?_).mono ?_
      · exact fun t ht => by
          have c6 := Chg.setCells w5 g (o + q * 4) [(.int .u32 (((turn : Int) + 1) % 4294967296))]
          rcases List.mem_or_eq_of_mem_set ht with h | rfl
          · exact (R5.out t h).1.kept c6 (fun x hx e => (R5.out t h).2 x hx e)
          · exact (R5.out s (List.mem_of_getElem? HSS.out)).1.kept c6 (fun x hx e => (R5.out s (List.mem_of_getElem? HSS.out)).2 x hx e)
      · exact fun t ht => by
          rcases List.mem_or_eq_of_mem_set ht with h | rfl
          · exact HSEC.out t h
          · have := HSEC.out s (List.mem_of_getElem? HSS.out); exact ⟨Nat.mod_lt _ (by omega), this.2⟩
      · exact fun t ht => by
          rcases List.mem_or_eq_of_mem_set ht with h | rfl
          · have := HDL.out t h; omega
          · have := HDL.out s (List.mem_of_getElem? HSS.out); exact Nat.le_trans this (by omega)
      rintro e w6 ⟨v6, er6, rfl, c6, hj6⟩
      rcases hj6 with h6 | ⟨_, her, rfl⟩
      · exact absurd h6.1 (bad_turn HSP.out q hqk hq0 ht s)
      rcases her with rfl | rfl
      all_goals
        go_wp2_with fail
        go_ret
        exact ⟨rfl, (d5.new (Chg.setCells w5 g (o + q * 4) [(.int .u32 (((turn : Int) + 1) % 4294967296))]) (fun x hx => by subst hx; exact hin)).trans c6⟩

set_option maxRecDepth 100000 in
set_option maxHeartbeats 1000000 in
theorem sj_B (turn place : Nat) (at_ way : Int) (v : Value) (w : World) (l : List UInt8) (hv : RB w v l) (ht : turn < 4294967296) (hp : place < 4294967296) (hl : l.length ≤ 600) (h0 : turn ≠ 0) (hq : place + max ((l.length + 46) / 47) 1 - 1 < 4294967296)
    (ha0 : 0 ≤ at_) (ha1 : at_ < 256) (hw0 : 0 ≤ way) (hw1 : way < 256) (hne : 0 < l.length) (hcase : way % 3 = 1) (hpos : 0 < at_ % (max ((l.length + 46) / 47) 1 : Nat)) :
    Calls Try.prog 4 #[.int .u32 turn, .int .u32 place, v, .int .u8 at_, .int .u8 way] w fun e w' => e = .returned (.bool true) ∧ Chg (fun _ => False) w w' := by
  obtain ⟨a, c, rfl⟩ := hv.form
  have hl' : (l.length : Int) ≤ 600 := by omega
  have e0 : ((turn : Int) == 0) = false := by simp; omega
  obtain ⟨n, hn⟩ : ∃ n, n = max ((l.length + 46) / 47) 1 := ⟨_, rfl⟩
  have hnn : ((l.length : Int) + 46) / 47 = (n : Int) := by omega
  have hn1 : 1 ≤ n := by omega
  have hn2 : n ≤ 13 := by omega
  have hb : ((n : Int) == 0) = false := by simp; omega
  have hle : (place : Int) + ((n : Int) - 1) ≤ 4294967295 := by omega
  have HQ := Lib.hid hq
  have HN := Lib.hid hn
  have HV := Lib.hid hv
  clear hq hn hv
  go_enter Try.func4, Try.ntmps4
  go_wp2_with fail
  refine (lives09 w).mono ?_
  rintro e w1 ⟨rfl, c1⟩
  go_wp2_with fail
  refine (split_any turn place _ _ l (HV.out.kept c1 (fun _ _ h => h)) ht hp hl h0 HQ.out).mono ?_
  rintro e w2 ⟨sv, ss, rfl, hs, hsp, c2⟩
  rw [← HN.out] at hsp
  have hlen := hsp.1
  have hown := hs.own
  rw [hlen] at hown
  obtain ⟨sa, sc, rfl⟩ := hown.form
  have HS := Lib.hid hs
  have HSP := Lib.hid hsp
  have HO := Lib.hid hown
  have HLEN := Lib.hid hlen
  clear hs hsp hown hlen
  go_wp2_with fail
  rw [hnn]
  clear hnn
  have hsec : ∀ s ∈ ss, s.turn < 4294967296 ∧ s.place < 4294967296 := fun s hs => by
    obtain ⟨i, hi⟩ := List.getElem?_of_mem hs
    obtain ⟨h1, h2, _⟩ := HSP.out.2 i s hi
    have := (List.getElem?_eq_some_iff.1 hi).1
    have := HLEN.out
    omega
  have hdl : ∀ s ∈ ss, s.data.length ≤ 47 := fun s hs => by
    obtain ⟨i, hi⟩ := List.getElem?_of_mem hs
    obtain ⟨_, _, _, h4⟩ := HSP.out.2 i s hi
    rw [h4]; exact List.length_take_le _ _
  have HSEC := Lib.hid hsec
  have HDL := Lib.hid hdl
  clear hsec hdl
  refine (join_any _ _ ss HS.out.own.reads (fun s hs => (HS.out.data s hs).1) HSEC.out (by rw [HLEN.out]; omega) (fun s hs => by have := HDL.out s hs; omega)).mono ?_
  rintro e w3 ⟨jv, er, rfl, c3, hj⟩
  obtain ⟨hjo, rfl, hob⟩ : Joins ss ∧ er = 0 ∧ OB w3 jv (dataOf ss) := by
    rcases hj with h | h
    · exact h
    · exact absurd (splits_joins turn place l n ss HSP.out HN.out (by have := HQ.out; omega)) h.1
  rw [splits_data turn place l n ss HSP.out HN.out] at hob
  have hcv := convb w3 jv l hob.rb
  have hcd := convb w3 _ l ((HV.out.kept (c1.trans c2) (fun _ _ h => h)).kept c3 (fun _ _ h => h))
  have HJ := Lib.hid hj
  have HJO := Lib.hid hjo
  clear hj hjo
  go_wp2_with fail
  clear hcv hcd
  go_loopw [94] (fun i wr => ∃ k : Nat, k ≤ n ∧ i = .int .i64 k ∧ Chg (fun _ => False) w3 wr) (fun i _ => n - (intOf i).toNat)
  case atStart => exact ⟨0, by omega, rfl, Chg.refl _ _⟩
  case round =>
    obtain ⟨k, hk, rfl, c4⟩ := hrel
    by_cases hlt : k < n
    · obtain ⟨s, hs⟩ : ∃ s, ss[k]? = some s := ⟨_, List.getElem?_eq_getElem (by rw [HLEN.out]; exact hlt)⟩
      obtain ⟨st, sp, sl, sd⟩ := HSP.out.2 k s hs
      obtain ⟨da, dc, hdv⟩ := (HS.out.data s (List.mem_of_getElem? hs)).1.form
      rcases HO.out.2 with ⟨_, hh⟩ | ⟨g, o, c', hsv, g1, g2, g3, g4, _⟩
      · exfalso; omega
      simp only [Value.slice.injEq, true_and] at hsv
      obtain ⟨rfl, rfl⟩ := hsv
      have q0 : wr.cell? ⟨g, o + k * 4, none⟩ = some (.int .u32 turn) := by rw [← st]; exact (c3.trans c4).cell (g4 (k * 4) _ (flat_get ss k 0 s hs (by omega))) (fun h => h)
      have q1 : wr.cell? ⟨g, o + k * 4 + 1, none⟩ = some (.int .u32 ((place : Int) + k)) := by rw [show ((place : Int) + k) = ((s.place : Nat) : Int) by omega]; exact (c3.trans c4).cell (g4 (k * 4 + 1) _ (flat_get ss k 1 s hs (by omega))) (fun h => h)
      have q2 : wr.cell? ⟨g, o + k * 4 + 2, none⟩ = some (.bool (decide ((k : Int) = (n : Int) - 1))) := by rw [← sl]; exact (c3.trans c4).cell (g4 (k * 4 + 2) _ (flat_get ss k 2 s hs (by omega))) (fun h => h)
      have q3 : wr.cell? ⟨g, o + k * 4 + 3, none⟩ = some (.slice da s.data.length dc) := by rw [← hdv]; exact (c3.trans c4).cell (g4 (k * 4 + 3) _ (flat_get ss k 3 s hs (by omega))) (fun h => h)
      have hgl : g < wr.heap.size := Nat.lt_of_lt_of_le g3 (c3.trans c4).size
      by_cases hkl : k + 1 = n
      · have hd : decide ((k : Int) = (n : Int) - 1) = true := by simp; omega
        have hd2 : ((k : Int) == (n : Int) - 1) = true := by simp; omega
        rw [hd] at q2
        have HK := Lib.hid hkl
        clear g4 hs st sp sl sd hdv hkl hd
        go_wp2_with fail
        exact ⟨⟨k + 1, by omega, rfl, c4.alloc _⟩, by simp only [intOf]; omega⟩
      · have hlt2 : (k : Int) < (n : Int) - 1 := by omega
        have hd : decide ((k : Int) = (n : Int) - 1) = false := by simp; omega
        have hd2 : ((k : Int) == (n : Int) - 1) = false := by simp; omega
        have hdl : s.data.length = 47 := by
          have := HN.out
          rw [sd]; simp; omega
        rw [hd] at q2
        rw [hdl] at q3
        clear g4 hs st sp sl sd hdv hd hdl
        go_wp2_with fail
        exact ⟨⟨k + 1, by omega, rfl, c4.alloc _⟩, by simp only [intOf]; omega⟩
    · obtain rfl : k = n := by omega
      obtain ⟨i0, hi, hz0, hz1, hz2⟩ := info_parts Try.info42
      have hown3 := HO.out.kept (c3.trans c4) (fun _ _ h => h)
      obtain ⟨q, hq⟩ : ∃ q : Nat, at_ % (k : Int) = (q : Int) + 1 := ⟨(at_ % k).toNat - 1, by have h1 := HN.out; rw [← h1] at hpos; omega⟩
      clear hpos
      have hqk : q + 1 < k := by have := Int.emod_lt_of_pos at_ (show (0 : Int) < k by omega); omega
      obtain ⟨s, hs⟩ : ∃ s, ss[q + 1]? = some s := ⟨_, List.getElem?_eq_getElem (by rw [HLEN.out]; omega)⟩
      obtain ⟨p, hp⟩ : ∃ s, ss[q]? = some s := ⟨_, List.getElem?_eq_getElem (by rw [HLEN.out]; omega)⟩
      obtain ⟨sa1, sc1, hsd⟩ := (HS.out.data s (List.mem_of_getElem? hs)).1.form
      obtain ⟨pa1, pc1, hpd⟩ := (HS.out.data p (List.mem_of_getElem? hp)).1.form
      have HSS := Lib.hid hs
      have HPP := Lib.hid hp
      have HSD := Lib.hid hsd
      have HPD := Lib.hid hpd
      clear hs hp hsd hpd
      have e3 : (way % 3 == 0) = false := by simp; omega
      have e4 : (way % 3 == 1) = true := by simp; omega
      go_wp2_with (at_builtin; go_loud (refine wpList_app rfl _ _ 34 rfl 42 i0 (.agg #[.int .u32 0, .int .u32 0, .bool false, .slice none 0 0]) 4 40 Try.underlying34 hi hz0 hz1 hz2 rfl (.slice (some ⟨wr.heap.size, 0, none⟩) 0 0) 0 [] rfl (Owns.empty wr 42 4) (.slice sa k sc) k (flat ss) rfl (hown3.reads.alloc _) (flat_one ss (fun s hs => (HS.out.data s hs).1)) (by simp only [maxLen]; omega) (by omega) ?_; intro bv w5 own5 c5 in5 nn5; obtain ⟨R5, g, o, c', rfl, g1, g3, hin, d5, OWN5, G4, F4⟩ := sj_bad HS.out hn1 c1 c2 c3 c4 own5 c5 in5; clear own5 in5 nn5 hown3; have xc0 : w5.cell? ⟨g, o + (q + 1) * 4, none⟩ = some (.int .u32 s.turn) := G4.out ((q + 1) * 4 + 0) _ (flat_get ss (q + 1) 0 s HSS.out (by omega)); have xf0 : w5.frozen? ⟨g, o + (q + 1) * 4, none⟩ = false := F4.out ((q + 1) * 4 + 0) (by omega); have xc1 : w5.cell? ⟨g, o + (q + 1) * 4 + 1, none⟩ = some (.int .u32 s.place) := G4.out ((q + 1) * 4 + 1) _ (flat_get ss (q + 1) 1 s HSS.out (by omega)); have xf1 : w5.frozen? ⟨g, o + (q + 1) * 4 + 1, none⟩ = false := F4.out ((q + 1) * 4 + 1) (by omega); have xc2 : w5.cell? ⟨g, o + (q + 1) * 4 + 2, none⟩ = some (.bool s.last) := G4.out ((q + 1) * 4 + 2) _ (flat_get ss (q + 1) 2 s HSS.out (by omega)); have xf2 : w5.frozen? ⟨g, o + (q + 1) * 4 + 2, none⟩ = false := F4.out ((q + 1) * 4 + 2) (by omega); have xc3 : w5.cell? ⟨g, o + (q + 1) * 4 + 3, none⟩ = some (.slice sa1 s.data.length sc1) := (by rw [← HSD.out]; exact G4.out ((q + 1) * 4 + 3) _ (flat_get ss (q + 1) 3 s HSS.out (by omega))); have xf3 : w5.frozen? ⟨g, o + (q + 1) * 4 + 3, none⟩ = false := F4.out ((q + 1) * 4 + 3) (by omega); have yc0 : w5.cell? ⟨g, o + q * 4, none⟩ = some (.int .u32 p.turn) := G4.out (q * 4 + 0) _ (flat_get ss q 0 p HPP.out (by omega)); have yf0 : w5.frozen? ⟨g, o + q * 4, none⟩ = false := F4.out (q * 4 + 0) (by omega); have yc1 : w5.cell? ⟨g, o + q * 4 + 1, none⟩ = some (.int .u32 p.place) := G4.out (q * 4 + 1) _ (flat_get ss q 1 p HPP.out (by omega)); have yf1 : w5.frozen? ⟨g, o + q * 4 + 1, none⟩ = false := F4.out (q * 4 + 1) (by omega); have yc2 : w5.cell? ⟨g, o + q * 4 + 2, none⟩ = some (.bool p.last) := G4.out (q * 4 + 2) _ (flat_get ss q 2 p HPP.out (by omega)); have yf2 : w5.frozen? ⟨g, o + q * 4 + 2, none⟩ = false := F4.out (q * 4 + 2) (by omega); have yc3 : w5.cell? ⟨g, o + q * 4 + 3, none⟩ = some (.slice pa1 p.data.length pc1) := (by rw [← HPD.out]; exact G4.out (q * 4 + 3) _ (flat_get ss q 3 p HPP.out (by omega))); have yf3 : w5.frozen? ⟨g, o + q * 4 + 3, none⟩ = false := F4.out (q * 4 + 3) (by omega)))
      go_region
      rw [← HPD.out, ← HSD.out]
      change Exit.inBlock 3 _ Exit.normal _ (((w5.setCells g (o + (q + 1) * 4) p.cells).setCells g (o + q * 4) s.cells).drew)
      have hls : ((ss.set (q + 1) p).set q s).length = k := by rw [List.length_set, List.length_set]; exact HLEN.out
      have own6 := (OWN5.out.set ((q + 1) * 4) p.cells (by rw [Sec.cells_length]; omega)).set (q * 4) s.cells (by rw [Sec.cells_length]; omega)
      rw [Sec.cells_length, Sec.cells_length, ← flat_set ss (q + 1) p (by rw [HLEN.out]; omega), ← flat_set (ss.set (q + 1) p) q s (by rw [List.length_set, HLEN.out]; omega)] at own6
      have c6 : Chg (fun x => x = g) w5 (((w5.setCells g (o + (q + 1) * 4) p.cells).setCells g (o + q * 4) s.cells).drew) := ((Chg.setCells w5 g _ _).trans (Chg.setCells _ g _ _)).drew
      have own7 := own6.kept (S := fun _ => False) ((Chg.refl _ _).drew) (fun _ _ h => h)
      generalize (((w5.setCells g (o + (q + 1) * 4) p.cells).setCells g (o + q * 4) s.cells).drew) = W7 at c6 own7 ⊢
      clear own6 xc0 xc1 xc2 xc3 yc0 yc1 yc2 yc3 xf0 xf1 xf2 xf3 yf0 yf1 yf2 yf3
      have d7 : Chg (fun _ => False) w W7 := d5.new c6 (fun x hx => by subst hx; exact hin)
      have hmem : ∀ t ∈ (ss.set (q + 1) p).set q s, t ∈ ss := fun t ht => by
        rcases List.mem_or_eq_of_mem_set ht with h | rfl
        · rcases List.mem_or_eq_of_mem_set h with h | rfl
          · exact h
          · exact List.mem_of_getElem? HPP.out
        · exact List.mem_of_getElem? HSS.out
      have OW7 := Lib.hid own7
      clear own7
      go_wp2_with fail
      refine (join_any _ W7 ((ss.set (q + 1) p).set q s) (by rw [hls]; exact OW7.out.reads) (fun t ht => (R5.out t (hmem t ht)).1.kept c6 (fun x hx e => (R5.out t (hmem t ht)).2 x hx e)) (fun t ht => HSEC.out t (hmem t ht)) (by rw [hls]; omega) (fun t ht => by have := HDL.out t (hmem t ht); omega)).mono ?_
      rintro e w8 ⟨v8, er6, rfl, c8, hj6⟩
      rcases hj6 with h6 | ⟨_, her, rfl⟩
      · exact absurd h6.1 (bad_swap HSP.out (q + 1) hqk (by omega) (by omega) s p HSS.out HPP.out)
      rcases her with rfl | rfl
      all_goals
        go_wp2_with fail
        go_ret
        exact ⟨rfl, d7.trans c8⟩

end Go.Proofs.Ytncgeeaifacapaa
