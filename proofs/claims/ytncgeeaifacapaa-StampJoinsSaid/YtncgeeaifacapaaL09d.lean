/- The law StampJoins, its walk: an empty record. -/
import Derived.Test.YtncgeeaifacapaaL09a
namespace Go.Proofs.Ytncgeeaifacapaa
open Go.RowKit Go.Cat

set_option maxRecDepth 100000 in
set_option maxHeartbeats 1000000 in
theorem sj_E1 (turn place : Nat) (at_ way : Int) (v : Value) (w : World) (l : List UInt8) (hv : RB w v l) (ht : turn < 4294967296) (hp : place < 4294967296) (hl : l.length ≤ 600) (h0 : turn ≠ 0) (hq : place + max ((l.length + 46) / 47) 1 - 1 < 4294967296)
    (ha0 : 0 ≤ at_) (ha1 : at_ < 256) (hw0 : 0 ≤ way) (hw1 : way < 256) (hne : l.length = 0) (hcase : way % 3 = 1) (hpos : at_ % (max ((l.length + 46) / 47) 1 : Nat) = 0) :
    Calls Try.prog 4 #[.int .u32 turn, .int .u32 place, v, .int .u8 at_, .int .u8 way] w fun e w' => e = .returned (.bool true) ∧ Chg (fun _ => False) w w' := by
  obtain ⟨a, c, rfl⟩ := hv.form
  have hl' : (l.length : Int) ≤ 600 := by omega
  have e0 : ((turn : Int) == 0) = false := by simp; omega
  obtain ⟨n, hn⟩ : ∃ n, n = max ((l.length + 46) / 47) 1 := ⟨_, rfl⟩
  have hnn : ((l.length : Int) + 46) / 47 = 0 := by omega
  have hn1 : 1 ≤ n := by omega
  have hn2 : n ≤ 13 := by omega
  have one_n : Value.int .i64 1 = Value.int .i64 (n : Int) := by rw [show (n : Int) = 1 by omega]
  have hle : (place : Int) + ((n : Int) - 1) ≤ 4294967295 := by omega
  have HQ := Lib.hid hq
  have HN := Lib.hid hn
  have HV := Lib.hid hv
  have ON := Lib.hid one_n
  have HNE := Lib.hid hne
  clear hq hn hv one_n hne
  go_enter Try.func4, Try.ntmps4
  go_wp2_with fail
  refine (lives09 w).mono ?_
  rintro e w1 ⟨rfl, c1⟩
  go_wp2_with fail
  refine (split_any turn place _ _ l (HV.out.kept c1 (fun _ _ h => h)) ht hp hl h0 HQ.out).mono ?_
  rintro e w2 ⟨sv, ss, rfl, hs, hsp, c2⟩
  rw [← HN.out] at hsp
  have hlen := hsp.1
  have hown := hs.own
  rw [hlen] at hown
  obtain ⟨sa, sc, rfl⟩ := hown.form
  have HS := Lib.hid hs
  have HSP := Lib.hid hsp
  have HO := Lib.hid hown
  have HLEN := Lib.hid hlen
  clear hs hsp hown hlen
  go_wp2_with fail
  rw [ON.out]
  clear hnn ON
  have hsec : ∀ s ∈ ss, s.turn < 4294967296 ∧ s.place < 4294967296 := fun s hs => by
    obtain ⟨i, hi⟩ := List.getElem?_of_mem hs
    obtain ⟨h1, h2, _⟩ := HSP.out.2 i s hi
    have := (List.getElem?_eq_some_iff.1 hi).1
    have := HLEN.out
    omega
  have hdl : ∀ s ∈ ss, s.data.length ≤ 47 := fun s hs => by
    obtain ⟨i, hi⟩ := List.getElem?_of_mem hs
    obtain ⟨_, _, _, h4⟩ := HSP.out.2 i s hi
    rw [h4]; exact List.length_take_le _ _
  have HSEC := Lib.hid hsec
  have HDL := Lib.hid hdl
  clear hsec hdl
  refine (join_any _ _ ss HS.out.own.reads (fun s hs => (HS.out.data s hs).1) HSEC.out (by rw [HLEN.out]; omega) (fun s hs => by have := HDL.out s hs; omega)).mono ?_
  rintro e w3 ⟨jv, er, rfl, c3, hj⟩
  obtain ⟨hjo, rfl, hob⟩ : Joins ss ∧ er = 0 ∧ OB w3 jv (dataOf ss) := by
    rcases hj with h | h
    · exact h
    · exact absurd (splits_joins turn place l n ss HSP.out HN.out (by have := HQ.out; omega)) h.1
  rw [splits_data turn place l n ss HSP.out HN.out] at hob
  have hcv := convb w3 jv l hob.rb
  have hcd := convb w3 _ l ((HV.out.kept (c1.trans c2) (fun _ _ h => h)).kept c3 (fun _ _ h => h))
  have HJ := Lib.hid hj
  have HJO := Lib.hid hjo
  clear hj hjo
  go_wp2_with fail
  clear hcv hcd
  go_loopw [94] (fun i wr => ∃ k : Nat, k ≤ n ∧ i = .int .i64 k ∧ Chg (fun _ => False) w3 wr) (fun i _ => n - (intOf i).toNat)
  case atStart => exact ⟨0, by omega, rfl, Chg.refl _ _⟩
  case round =>
    obtain ⟨k, hk, rfl, c4⟩ := hrel
    by_cases hlt : k < n
    · obtain ⟨s, hs⟩ : ∃ s, ss[k]? = some s := ⟨_, List.getElem?_eq_getElem (by rw [HLEN.out]; exact hlt)⟩
      obtain ⟨st, sp, sl, sd⟩ := HSP.out.2 k s hs
      obtain ⟨da, dc, hdv⟩ := (HS.out.data s (List.mem_of_getElem? hs)).1.form
      rcases HO.out.2 with ⟨_, hh⟩ | ⟨g, o, c', hsv, g1, g2, g3, g4, _⟩
      · exfalso; omega
      simp only [Value.slice.injEq, true_and] at hsv
      obtain ⟨rfl, rfl⟩ := hsv
      have q0 : wr.cell? ⟨g, o + k * 4, none⟩ = some (.int .u32 turn) := by rw [← st]; exact (c3.trans c4).cell (g4 (k * 4) _ (flat_get ss k 0 s hs (by omega))) (fun h => h)
      have q1 : wr.cell? ⟨g, o + k * 4 + 1, none⟩ = some (.int .u32 ((place : Int) + k)) := by rw [show ((place : Int) + k) = ((s.place : Nat) : Int) by omega]; exact (c3.trans c4).cell (g4 (k * 4 + 1) _ (flat_get ss k 1 s hs (by omega))) (fun h => h)
      have q2 : wr.cell? ⟨g, o + k * 4 + 2, none⟩ = some (.bool (decide ((k : Int) = (n : Int) - 1))) := by rw [← sl]; exact (c3.trans c4).cell (g4 (k * 4 + 2) _ (flat_get ss k 2 s hs (by omega))) (fun h => h)
      have q3 : wr.cell? ⟨g, o + k * 4 + 3, none⟩ = some (.slice da s.data.length dc) := by rw [← hdv]; exact (c3.trans c4).cell (g4 (k * 4 + 3) _ (flat_get ss k 3 s hs (by omega))) (fun h => h)
      have hgl : g < wr.heap.size := Nat.lt_of_lt_of_le g3 (c3.trans c4).size
      by_cases hkl : k + 1 = n
      · have hd : decide ((k : Int) = (n : Int) - 1) = true := by simp; omega
        have hd2 : ((k : Int) == (n : Int) - 1) = true := by simp; omega
        rw [hd] at q2
        have HK := Lib.hid hkl
        clear g4 hs st sp sl sd hdv hkl hd
        go_wp2_with fail
        exact ⟨⟨k + 1, by omega, rfl, c4.alloc _⟩, by simp only [intOf]; omega⟩
      · have hlt2 : (k : Int) < (n : Int) - 1 := by omega
        have hd : decide ((k : Int) = (n : Int) - 1) = false := by simp; omega
        have hd2 : ((k : Int) == (n : Int) - 1) = false := by simp; omega
        have hdl : s.data.length = 47 := by
          have := HN.out
          rw [sd]; simp; omega
        rw [hd] at q2
        rw [hdl] at q3
        clear g4 hs st sp sl sd hdv hd hdl
        go_wp2_with fail
        exact ⟨⟨k + 1, by omega, rfl, c4.alloc _⟩, by simp only [intOf]; omega⟩
    · obtain rfl : k = n := by omega
      obtain ⟨i0, hi, hz0, hz1, hz2⟩ := info_parts Try.info42
      have hown3 := HO.out.kept (c3.trans c4) (fun _ _ h => h)
      obtain ⟨s, hs⟩ : ∃ s, ss[0]? = some s := ⟨_, List.getElem?_eq_getElem (by rw [HLEN.out]; omega)⟩
      have hq : at_ % (k : Int) = 0 := by have h1 := HN.out; rw [← h1] at hpos; exact hpos
      have HSS := Lib.hid hs
      clear hs hpos
      have e3 : (way % 3 == 0) = false := by simp; omega
      have e4 : (way % 3 == 1) = true := by simp; omega
      go_wp2_with (at_builtin; go_loud (refine wpList_app rfl _ _ 34 rfl 42 i0 (.agg #[.int .u32 0, .int .u32 0, .bool false, .slice none 0 0]) 4 40 Try.underlying34 hi hz0 hz1 hz2 rfl (.slice (some ⟨wr.heap.size, 0, none⟩) 0 0) 0 [] rfl (Owns.empty wr 42 4) (.slice sa k sc) k (flat ss) rfl (hown3.reads.alloc _) (flat_one ss (fun s hs => (HS.out.data s hs).1)) (by simp only [maxLen]; omega) (by omega) ?_; intro bv w5 own5 c5 in5 nn5; obtain ⟨R5, g, o, c', rfl, g1, g3, hin, d5, OWN5, G4, F4⟩ := sj_bad HS.out hn1 c1 c2 c3 c4 own5 c5 in5; clear own5 in5 nn5 hown3; have q2 : w5.cell? ⟨g, o + 2, none⟩ = some (.bool s.last) := G4.out 2 _ (flat_get ss 0 2 s HSS.out (by omega)); have qf : w5.frozen? ⟨g, o + 2, none⟩ = false := F4.out 2 (by omega)))
      have own6 := OWN5.out.set 2 [.bool (!s.last)] (by simp; omega)
      have e6 := flat_cell ss 0 2 s { s with last := !s.last } (.bool (!s.last)) HSS.out (by omega) rfl
      simp only [Nat.zero_mul, Nat.zero_add] at e6
      rw [e6] at own6
      have hls : (ss.set 0 { s with last := !s.last }).length = k := by rw [List.length_set]; exact HLEN.out
      refine (join_any _ (w5.setCells g (o + 2) [.bool (!s.last)]) (ss.set 0 { s with last := !s.last }) (by rw [hls]; exact own6.reads) ?_ ?_ (by rw [hls]; omega) ?_).mono ?_
      · exact fun t ht => by
          have c6 := (Chg.setCells w5 g (o + 2) [.bool (!s.last)])
          rcases List.mem_or_eq_of_mem_set ht with h | rfl
          · exact (R5.out t h).1.kept c6 (fun x hx e => (R5.out t h).2 x hx e)
          · exact (R5.out s (List.mem_of_getElem? HSS.out)).1.kept c6 (fun x hx e => (R5.out s (List.mem_of_getElem? HSS.out)).2 x hx e)
      · exact fun t ht => by
          rcases List.mem_or_eq_of_mem_set ht with h | rfl
          · exact HSEC.out t h
          · exact HSEC.out s (List.mem_of_getElem? HSS.out)
      · exact fun t ht => by
          rcases List.mem_or_eq_of_mem_set ht with h | rfl
          · have := HDL.out t h; omega
          · have := HDL.out s (List.mem_of_getElem? HSS.out); exact Nat.le_trans this (by omega)
      rintro e w6 ⟨v6, er6, rfl, c6, hj6⟩
      rcases hj6 with h6 | ⟨_, her, rfl⟩
      · exact absurd h6.1 (bad_last HSP.out (by omega) s HSS.out)
      rcases her with rfl | rfl
      all_goals
        go_wp2_with fail
        go_ret
        exact ⟨rfl, (d5.new (Chg.setCells w5 g (o + 2) [.bool (!s.last)]) (fun x hx => by subst hx; exact hin)).trans c6⟩

set_option maxRecDepth 100000 in
set_option maxHeartbeats 1000000 in
theorem sj_E2 (turn place : Nat) (at_ way : Int) (v : Value) (w : World) (l : List UInt8) (hv : RB w v l) (ht : turn < 4294967296) (hp : place < 4294967296) (hl : l.length ≤ 600) (h0 : turn ≠ 0) (hq : place + max ((l.length + 46) / 47) 1 - 1 < 4294967296)
    (ha0 : 0 ≤ at_) (ha1 : at_ < 256) (hw0 : 0 ≤ way) (hw1 : way < 256) (hne : l.length = 0) (hcase : way % 3 = 2) (hpos : at_ % (max ((l.length + 46) / 47) 1 : Nat) = 0) :
    Calls Try.prog 4 #[.int .u32 turn, .int .u32 place, v, .int .u8 at_, .int .u8 way] w fun e w' => e = .returned (.bool true) ∧ Chg (fun _ => False) w w' := by
  obtain ⟨a, c, rfl⟩ := hv.form
  have hl' : (l.length : Int) ≤ 600 := by omega
  have e0 : ((turn : Int) == 0) = false := by simp; omega
  obtain ⟨n, hn⟩ : ∃ n, n = max ((l.length + 46) / 47) 1 := ⟨_, rfl⟩
  have hnn : ((l.length : Int) + 46) / 47 = 0 := by omega
  have hn1 : 1 ≤ n := by omega
  have hn2 : n ≤ 13 := by omega
  have one_n : Value.int .i64 1 = Value.int .i64 (n : Int) := by rw [show (n : Int) = 1 by omega]
  have hle : (place : Int) + ((n : Int) - 1) ≤ 4294967295 := by omega
  have HQ := Lib.hid hq
  have HN := Lib.hid hn
  have HV := Lib.hid hv
  have ON := Lib.hid one_n
  have HNE := Lib.hid hne
  clear hq hn hv one_n hne
  go_enter Try.func4, Try.ntmps4
  go_wp2_with fail
  refine (lives09 w).mono ?_
  rintro e w1 ⟨rfl, c1⟩
  go_wp2_with fail
  refine (split_any turn place _ _ l (HV.out.kept c1 (fun _ _ h => h)) ht hp hl h0 HQ.out).mono ?_
  rintro e w2 ⟨sv, ss, rfl, hs, hsp, c2⟩
  rw [← HN.out] at hsp
  have hlen := hsp.1
  have hown := hs.own
  rw [hlen] at hown
  obtain ⟨sa, sc, rfl⟩ := hown.form
  have HS := Lib.hid hs
  have HSP := Lib.hid hsp
  have HO := Lib.hid hown
  have HLEN := Lib.hid hlen
  clear hs hsp hown hlen
  go_wp2_with fail
  rw [ON.out]
  clear hnn ON
  have hsec : ∀ s ∈ ss, s.turn < 4294967296 ∧ s.place < 4294967296 := fun s hs => by
    obtain ⟨i, hi⟩ := List.getElem?_of_mem hs
    obtain ⟨h1, h2, _⟩ := HSP.out.2 i s hi
    have := (List.getElem?_eq_some_iff.1 hi).1
    have := HLEN.out
    omega
  have hdl : ∀ s ∈ ss, s.data.length ≤ 47 := fun s hs => by
    obtain ⟨i, hi⟩ := List.getElem?_of_mem hs
    obtain ⟨_, _, _, h4⟩ := HSP.out.2 i s hi
    rw [h4]; exact List.length_take_le _ _
  have HSEC := Lib.hid hsec
  have HDL := Lib.hid hdl
  clear hsec hdl
  refine (join_any _ _ ss HS.out.own.reads (fun s hs => (HS.out.data s hs).1) HSEC.out (by rw [HLEN.out]; omega) (fun s hs => by have := HDL.out s hs; omega)).mono ?_
  rintro e w3 ⟨jv, er, rfl, c3, hj⟩
  obtain ⟨hjo, rfl, hob⟩ : Joins ss ∧ er = 0 ∧ OB w3 jv (dataOf ss) := by
    rcases hj with h | h
    · exact h
    · exact absurd (splits_joins turn place l n ss HSP.out HN.out (by have := HQ.out; omega)) h.1
  rw [splits_data turn place l n ss HSP.out HN.out] at hob
  have hcv := convb w3 jv l hob.rb
  have hcd := convb w3 _ l ((HV.out.kept (c1.trans c2) (fun _ _ h => h)).kept c3 (fun _ _ h => h))
  have HJ := Lib.hid hj
  have HJO := Lib.hid hjo
  clear hj hjo
  go_wp2_with fail
  clear hcv hcd
  go_loopw [94] (fun i wr => ∃ k : Nat, k ≤ n ∧ i = .int .i64 k ∧ Chg (fun _ => False) w3 wr) (fun i _ => n - (intOf i).toNat)
  case atStart => exact ⟨0, by omega, rfl, Chg.refl _ _⟩
  case round =>
    obtain ⟨k, hk, rfl, c4⟩ := hrel
    by_cases hlt : k < n
    · obtain ⟨s, hs⟩ : ∃ s, ss[k]? = some s := ⟨_, List.getElem?_eq_getElem (by rw [HLEN.out]; exact hlt)⟩
      obtain ⟨st, sp, sl, sd⟩ := HSP.out.2 k s hs
      obtain ⟨da, dc, hdv⟩ := (HS.out.data s (List.mem_of_getElem? hs)).1.form
      rcases HO.out.2 with ⟨_, hh⟩ | ⟨g, o, c', hsv, g1, g2, g3, g4, _⟩
      · exfalso; omega
      simp only [Value.slice.injEq, true_and] at hsv
      obtain ⟨rfl, rfl⟩ := hsv
      have q0 : wr.cell? ⟨g, o + k * 4, none⟩ = some (.int .u32 turn) := by rw [← st]; exact (c3.trans c4).cell (g4 (k * 4) _ (flat_get ss k 0 s hs (by omega))) (fun h => h)
      have q1 : wr.cell? ⟨g, o + k * 4 + 1, none⟩ = some (.int .u32 ((place : Int) + k)) := by rw [show ((place : Int) + k) = ((s.place : Nat) : Int) by omega]; exact (c3.trans c4).cell (g4 (k * 4 + 1) _ (flat_get ss k 1 s hs (by omega))) (fun h => h)
      have q2 : wr.cell? ⟨g, o + k * 4 + 2, none⟩ = some (.bool (decide ((k : Int) = (n : Int) - 1))) := by rw [← sl]; exact (c3.trans c4).cell (g4 (k * 4 + 2) _ (flat_get ss k 2 s hs (by omega))) (fun h => h)
      have q3 : wr.cell? ⟨g, o + k * 4 + 3, none⟩ = some (.slice da s.data.length dc) := by rw [← hdv]; exact (c3.trans c4).cell (g4 (k * 4 + 3) _ (flat_get ss k 3 s hs (by omega))) (fun h => h)
      have hgl : g < wr.heap.size := Nat.lt_of_lt_of_le g3 (c3.trans c4).size
      by_cases hkl : k + 1 = n
      · have hd : decide ((k : Int) = (n : Int) - 1) = true := by simp; omega
        have hd2 : ((k : Int) == (n : Int) - 1) = true := by simp; omega
        rw [hd] at q2
        have HK := Lib.hid hkl
        clear g4 hs st sp sl sd hdv hkl hd
        go_wp2_with fail
        exact ⟨⟨k + 1, by omega, rfl, c4.alloc _⟩, by simp only [intOf]; omega⟩
      · have hlt2 : (k : Int) < (n : Int) - 1 := by omega
        have hd : decide ((k : Int) = (n : Int) - 1) = false := by simp; omega
        have hd2 : ((k : Int) == (n : Int) - 1) = false := by simp; omega
        have hdl : s.data.length = 47 := by
          have := HN.out
          rw [sd]; simp; omega
        rw [hd] at q2
        rw [hdl] at q3
        clear g4 hs st sp sl sd hdv hd hdl
        go_wp2_with fail
        exact ⟨⟨k + 1, by omega, rfl, c4.alloc _⟩, by simp only [intOf]; omega⟩
    · obtain rfl : k = n := by omega
      obtain ⟨i0, hi, hz0, hz1, hz2⟩ := info_parts Try.info42
      have hown3 := HO.out.kept (c3.trans c4) (fun _ _ h => h)
      obtain ⟨s, hs⟩ : ∃ s, ss[0]? = some s := ⟨_, List.getElem?_eq_getElem (by rw [HLEN.out]; omega)⟩
      have hq : at_ % (k : Int) = 0 := by have h1 := HN.out; rw [← h1] at hpos; exact hpos
      have HSS := Lib.hid hs
      clear hs hpos
      have e3 : (way % 3 == 0) = false := by simp; omega
      have e4 : (way % 3 == 1) = false := by simp; omega
      go_wp2_with (at_builtin; go_loud (refine wpList_app rfl _ _ 34 rfl 42 i0 (.agg #[.int .u32 0, .int .u32 0, .bool false, .slice none 0 0]) 4 40 Try.underlying34 hi hz0 hz1 hz2 rfl (.slice (some ⟨wr.heap.size, 0, none⟩) 0 0) 0 [] rfl (Owns.empty wr 42 4) (.slice sa k sc) k (flat ss) rfl (hown3.reads.alloc _) (flat_one ss (fun s hs => (HS.out.data s hs).1)) (by simp only [maxLen]; omega) (by omega) ?_; intro bv w5 own5 c5 in5 nn5; obtain ⟨R5, g, o, c', rfl, g1, g3, hin, d5, OWN5, G4, F4⟩ := sj_bad HS.out hn1 c1 c2 c3 c4 own5 c5 in5; clear own5 in5 nn5 hown3; have q2 : w5.cell? ⟨g, o + 2, none⟩ = some (.bool s.last) := G4.out 2 _ (flat_get ss 0 2 s HSS.out (by omega)); have qf : w5.frozen? ⟨g, o + 2, none⟩ = false := F4.out 2 (by omega)))
      have own6 := OWN5.out.set 2 [.bool (!s.last)] (by simp; omega)
      have e6 := flat_cell ss 0 2 s { s with last := !s.last } (.bool (!s.last)) HSS.out (by omega) rfl
      simp only [Nat.zero_mul, Nat.zero_add] at e6
      rw [e6] at own6
      have hls : (ss.set 0 { s with last := !s.last }).length = k := by rw [List.length_set]; exact HLEN.out
      refine (join_any _ (w5.setCells g (o + 2) [.bool (!s.last)]) (ss.set 0 { s with last := !s.last }) (by rw [hls]; exact own6.reads) ?_ ?_ (by rw [hls]; omega) ?_).mono ?_
      · exact fun t ht => by
          have c6 := (Chg.setCells w5 g (o + 2) [.bool (!s.last)])
          rcases List.mem_or_eq_of_mem_set ht with h | rfl
          · exact (R5.out t h).1.kept c6 (fun x hx e => (R5.out t h).2 x hx e)
          · exact (R5.out s (List.mem_of_getElem? HSS.out)).1.kept c6 (fun x hx e => (R5.out s (List.mem_of_getElem? HSS.out)).2 x hx e)
      · exact fun t ht => by
          rcases List.mem_or_eq_of_mem_set ht with h | rfl
          · exact HSEC.out t h
          · exact HSEC.out s (List.mem_of_getElem? HSS.out)
      · exact fun t ht => by
          rcases List.mem_or_eq_of_mem_set ht with h | rfl
          · have := HDL.out t h; omega
          · have := HDL.out s (List.mem_of_getElem? HSS.out); exact Nat.le_trans this (by omega)
      rintro e w6 ⟨v6, er6, rfl, c6, hj6⟩
      rcases hj6 with h6 | ⟨_, her, rfl⟩
      · exact absurd h6.1 (bad_last HSP.out (by omega) s HSS.out)
      rcases her with rfl | rfl
      all_goals
        go_wp2_with fail
        go_ret
        exact ⟨rfl, (d5.new (Chg.setCells w5 g (o + 2) [.bool (!s.last)]) (fun x hx => by subst hx; exact hin)).trans c6⟩

set_option maxRecDepth 100000 in
set_option maxHeartbeats 1000000 in
theorem sj_E3 (turn place : Nat) (at_ way : Int) (v : Value) (w : World) (l : List UInt8) (hv : RB w v l) (ht : turn < 4294967296) (hp : place < 4294967296) (hl : l.length ≤ 600) (h0 : turn ≠ 0) (hq : place + max ((l.length + 46) / 47) 1 - 1 < 4294967296)
    (ha0 : 0 ≤ at_) (ha1 : at_ < 256) (hw0 : 0 ≤ way) (hw1 : way < 256) (hne : l.length = 0) (hcase : way % 3 = 0) (hpos : at_ % (max ((l.length + 46) / 47) 1 : Nat) = 0 ∧ (max ((l.length + 46) / 47) 1 : Nat) = 1) :
    Calls Try.prog 4 #[.int .u32 turn, .int .u32 place, v, .int .u8 at_, .int .u8 way] w fun e w' => e = .returned (.bool true) ∧ Chg (fun _ => False) w w' := by
  obtain ⟨a, c, rfl⟩ := hv.form
  have hl' : (l.length : Int) ≤ 600 := by omega
  have e0 : ((turn : Int) == 0) = false := by simp; omega
  obtain ⟨n, hn⟩ : ∃ n, n = max ((l.length + 46) / 47) 1 := ⟨_, rfl⟩
  have hnn : ((l.length : Int) + 46) / 47 = 0 := by omega
  have hn1 : 1 ≤ n := by omega
  have hn2 : n ≤ 13 := by omega
  have one_n : Value.int .i64 1 = Value.int .i64 (n : Int) := by rw [show (n : Int) = 1 by omega]
  have hle : (place : Int) + ((n : Int) - 1) ≤ 4294967295 := by omega
  have HQ := Lib.hid hq
  have HN := Lib.hid hn
  have HV := Lib.hid hv
  have ON := Lib.hid one_n
  have HNE := Lib.hid hne
  clear hq hn hv one_n hne
  go_enter Try.func4, Try.ntmps4
  go_wp2_with fail
  refine (lives09 w).mono ?_
  rintro e w1 ⟨rfl, c1⟩
  go_wp2_with fail
  refine (split_any turn place _ _ l (HV.out.kept c1 (fun _ _ h => h)) ht hp hl h0 HQ.out).mono ?_
  rintro e w2 ⟨sv, ss, rfl, hs, hsp, c2⟩
  rw [← HN.out] at hsp
  have hlen := hsp.1
  have hown := hs.own
  rw [hlen] at hown
  obtain ⟨sa, sc, rfl⟩ := hown.form
  have HS := Lib.hid hs
  have HSP := Lib.hid hsp
  have HO := Lib.hid hown
  have HLEN := Lib.hid hlen
  clear hs hsp hown hlen
  go_wp2_with fail
  rw [ON.out]
  clear hnn ON
  have hsec : ∀ s ∈ ss, s.turn < 4294967296 ∧ s.place < 4294967296 := fun s hs => by
    obtain ⟨i, hi⟩ := List.getElem?_of_mem hs
    obtain ⟨h1, h2, _⟩ := HSP.out.2 i s hi
    have := (List.getElem?_eq_some_iff.1 hi).1
    have := HLEN.out
    omega
  have hdl : ∀ s ∈ ss, s.data.length ≤ 47 := fun s hs => by
    obtain ⟨i, hi⟩ := List.getElem?_of_mem hs
    obtain ⟨_, _, _, h4⟩ := HSP.out.2 i s hi
    rw [h4]; exact List.length_take_le _ _
  have HSEC := Lib.hid hsec
  have HDL := Lib.hid hdl
  clear hsec hdl
  refine (join_any _ _ ss HS.out.own.reads (fun s hs => (HS.out.data s hs).1) HSEC.out (by rw [HLEN.out]; omega) (fun s hs => by have := HDL.out s hs; omega)).mono ?_
  rintro e w3 ⟨jv, er, rfl, c3, hj⟩
  obtain ⟨hjo, rfl, hob⟩ : Joins ss ∧ er = 0 ∧ OB w3 jv (dataOf ss) := by
    rcases hj with h | h
    · exact h
    · exact absurd (splits_joins turn place l n ss HSP.out HN.out (by have := HQ.out; omega)) h.1
  rw [splits_data turn place l n ss HSP.out HN.out] at hob
  have hcv := convb w3 jv l hob.rb
  have hcd := convb w3 _ l ((HV.out.kept (c1.trans c2) (fun _ _ h => h)).kept c3 (fun _ _ h => h))
  have HJ := Lib.hid hj
  have HJO := Lib.hid hjo
  clear hj hjo
  go_wp2_with fail
  clear hcv hcd
  go_loopw [94] (fun i wr => ∃ k : Nat, k ≤ n ∧ i = .int .i64 k ∧ Chg (fun _ => False) w3 wr) (fun i _ => n - (intOf i).toNat)
  case atStart => exact ⟨0, by omega, rfl, Chg.refl _ _⟩
  case round =>
    obtain ⟨k, hk, rfl, c4⟩ := hrel
    by_cases hlt : k < n
    · obtain ⟨s, hs⟩ : ∃ s, ss[k]? = some s := ⟨_, List.getElem?_eq_getElem (by rw [HLEN.out]; exact hlt)⟩
      obtain ⟨st, sp, sl, sd⟩ := HSP.out.2 k s hs
      obtain ⟨da, dc, hdv⟩ := (HS.out.data s (List.mem_of_getElem? hs)).1.form
      rcases HO.out.2 with ⟨_, hh⟩ | ⟨g, o, c', hsv, g1, g2, g3, g4, _⟩
      · exfalso; omega
      simp only [Value.slice.injEq, true_and] at hsv
      obtain ⟨rfl, rfl⟩ := hsv
      have q0 : wr.cell? ⟨g, o + k * 4, none⟩ = some (.int .u32 turn) := by rw [← st]; exact (c3.trans c4).cell (g4 (k * 4) _ (flat_get ss k 0 s hs (by omega))) (fun h => h)
      have q1 : wr.cell? ⟨g, o + k * 4 + 1, none⟩ = some (.int .u32 ((place : Int) + k)) := by rw [show ((place : Int) + k) = ((s.place : Nat) : Int) by omega]; exact (c3.trans c4).cell (g4 (k * 4 + 1) _ (flat_get ss k 1 s hs (by omega))) (fun h => h)
      have q2 : wr.cell? ⟨g, o + k * 4 + 2, none⟩ = some (.bool (decide ((k : Int) = (n : Int) - 1))) := by rw [← sl]; exact (c3.trans c4).cell (g4 (k * 4 + 2) _ (flat_get ss k 2 s hs (by omega))) (fun h => h)
      have q3 : wr.cell? ⟨g, o + k * 4 + 3, none⟩ = some (.slice da s.data.length dc) := by rw [← hdv]; exact (c3.trans c4).cell (g4 (k * 4 + 3) _ (flat_get ss k 3 s hs (by omega))) (fun h => h)
      have hgl : g < wr.heap.size := Nat.lt_of_lt_of_le g3 (c3.trans c4).size
      by_cases hkl : k + 1 = n
      · have hd : decide ((k : Int) = (n : Int) - 1) = true := by simp; omega
        have hd2 : ((k : Int) == (n : Int) - 1) = true := by simp; omega
        rw [hd] at q2
        have HK := Lib.hid hkl
        clear g4 hs st sp sl sd hdv hkl hd
        go_wp2_with fail
        exact ⟨⟨k + 1, by omega, rfl, c4.alloc _⟩, by simp only [intOf]; omega⟩
      · have hlt2 : (k : Int) < (n : Int) - 1 := by omega
        have hd : decide ((k : Int) = (n : Int) - 1) = false := by simp; omega
        have hd2 : ((k : Int) == (n : Int) - 1) = false := by simp; omega
        have hdl : s.data.length = 47 := by
          have := HN.out
          rw [sd]; simp; omega
        rw [hd] at q2
        rw [hdl] at q3
        clear g4 hs st sp sl sd hdv hd hdl
        go_wp2_with fail
        exact ⟨⟨k + 1, by omega, rfl, c4.alloc _⟩, by simp only [intOf]; omega⟩
    · obtain rfl : k = n := by omega
      obtain ⟨i0, hi, hz0, hz1, hz2⟩ := info_parts Try.info42
      have hown3 := HO.out.kept (c3.trans c4) (fun _ _ h => h)
      obtain ⟨q, hq⟩ : ∃ q : Nat, at_ % (k : Int) = (q : Int) := ⟨(at_ % k).toNat, by rw [Int.toNat_of_nonneg (Int.emod_nonneg _ (by omega))]⟩
      have hqk : q < k := by have := Int.emod_lt_of_pos at_ (show (0 : Int) < k by omega); omega
      have hq0 : q = 0 ∧ k = 1 := by have h1 := HN.out; rw [← h1] at hpos; omega
      clear hpos
      obtain ⟨s, hs⟩ : ∃ s, ss[q]? = some s := ⟨_, List.getElem?_eq_getElem (by rw [HLEN.out]; omega)⟩
      have HSS := Lib.hid hs
      clear hs
      have e5 : ((q : Int) == 0) = true := by simp; omega
      have e6 : ¬ (1 : Int) < k := by omega
      have HC : Hid (0 < q ∨ k = 1) := .inr hq0.2
      have HZ := Lib.hid hq0
      clear hq0
      have e3 : (way % 3 == 0) = true := by simp; omega
      have e4 : (way % 3 == 1) = false := by simp; omega
      go_wp2_with (at_builtin; go_loud (refine wpList_app rfl _ _ 34 rfl 42 i0 (.agg #[.int .u32 0, .int .u32 0, .bool false, .slice none 0 0]) 4 40 Try.underlying34 hi hz0 hz1 hz2 rfl (.slice (some ⟨wr.heap.size, 0, none⟩) 0 0) 0 [] rfl (Owns.empty wr 42 4) (.slice sa k sc) k (flat ss) rfl (hown3.reads.alloc _) (flat_one ss (fun s hs => (HS.out.data s hs).1)) (by simp only [maxLen]; omega) (by omega) ?_; intro bv w5 own5 c5 in5 nn5; obtain ⟨R5, g, o, c', rfl, g1, g3, hin, d5, OWN5, G4, F4⟩ := sj_bad HS.out hn1 c1 c2 c3 c4 own5 c5 in5; clear own5 in5 nn5 hown3))
      have hwq : IntKind.i64.wrap ((q : Int) + 1) = (q : Int) + 1 := IntWalk.i64_in _ (by omega)
      obtain ⟨tv, htv, hrd⟩ : ∃ tv, (∀ w', (Instr.sliceAt 34 (.slice (some ⟨g, o, none⟩) k c') (some (.int .i64 ((q : Int) + 1))) none none).run Try.prog w' = .ok tv w') ∧ Reads w5 4 tv (k - (q + 1)) (flat (ss.drop (q + 1))) :=
        ⟨_, fun w' => ssl_tail w' (some ⟨g, o, none⟩) k c' q (by omega), by rw [flat_drop]; exact OWN5.out.reads.drop (by omega) g1⟩
      refine wpT.begin (fun x => x = g) 10 (by kernel_rfl) rfl ?_
      refine wpT.take 0 rfl (by kernel_rfl) (fun _ _ _ h => h) rfl (fun w' hw' => by go_simp <;> with_reducible rfl) ?_
      simp only [Act.put, List.setIfInBounds_toArray, List.set_cons_zero, List.set_cons_succ]
      refine wpT.take 1 rfl (by kernel_rfl) (fun _ _ _ h => h) rfl (fun w' hw' => by go_simp <;> with_reducible rfl) ?_
      simp only [Act.put, List.setIfInBounds_toArray, List.set_cons_zero, List.set_cons_succ]
      refine wpT.take 2 rfl (by kernel_rfl) (fun _ _ _ h => h) rfl (fun w' hw' => by go_simp <;> with_reducible rfl) ?_
      simp only [Act.put, List.setIfInBounds_toArray, List.set_cons_zero, List.set_cons_succ]
      refine wpT.take 3 rfl (by kernel_rfl) (fun _ _ _ h => h) rfl (fun w' hw' => by have hx := ssl_front w' (some ⟨g, o, none⟩) k c' q (by omega); go_simp <;> with_reducible rfl) ?_
      simp only [Act.put, List.setIfInBounds_toArray, List.set_cons_zero, List.set_cons_succ]
      refine wpT.take 4 rfl (by kernel_rfl) (fun _ _ _ h => h) rfl (fun w' hw' => by go_simp <;> with_reducible rfl) ?_
      simp only [Act.put, List.setIfInBounds_toArray, List.set_cons_zero, List.set_cons_succ]
      refine wpT.take 5 rfl (by kernel_rfl) (fun _ _ _ h => h) rfl (fun w' hw' => by go_simp <;> with_reducible rfl) ?_
      simp only [Act.put, List.setIfInBounds_toArray, List.set_cons_zero, List.set_cons_succ]
      refine wpT.take 6 rfl (by kernel_rfl) (fun _ _ _ h => h) rfl (fun w' hw' => by go_simp <;> with_reducible rfl) ?_
      simp only [Act.put, List.setIfInBounds_toArray, List.set_cons_zero, List.set_cons_succ]
      refine wpT.take 7 rfl (by kernel_rfl) (fun _ _ _ h => h) rfl (fun w' hw' => by have hx := htv w'; go_simp <;> with_reducible rfl) ?_
      simp only [Act.put, List.setIfInBounds_toArray, List.set_cons_zero, List.set_cons_succ]
      refine wpT.call 8 rfl (by kernel_rfl) rfl (fun K hK => ?_)
      have own5d := OWN5.out.kept (S := fun _ => False) ((Chg.refl _ w5).drew) (fun _ _ h => h)
      have ofr := own5d.front (hi := q) (m := q) (by omega) (Nat.le_refl q) (by omega)
      have odr := hrd.kept (S := fun _ => False) ((Chg.refl _ w5).drew) (fun _ _ h => h)
      rw [← flat_take] at ofr
      refine wp_app _ _ 34 rfl 42 (.agg #[.int .u32 0, .int .u32 0, .bool false, .slice none 0 0]) 4 40 Try.underlying34 Try.info42 rfl (.slice (some ⟨g, o, none⟩) q q) q (flat (ss.take q)) rfl ofr tv (k - (q + 1)) (flat (ss.drop (q + 1))) rfl odr (flat_one _ (fun t ht => (R5.out t (List.mem_of_mem_drop ht)).1)) (by simp only [maxLen]; omega) (by omega) ?_
      intro v6 w6 own6 c6 in6 nn6
      have c6' : Chg (fun x => x = g) w5.drew w6 := c6.mono (fun x _ h => by simp [Value.ownBlock] at h; exact h.symm)
      refine hK _ _ c6' ?_
      simp only [Act.put, List.setIfInBounds_toArray, List.set_cons_zero, List.set_cons_succ]
      refine wpT.take 9 rfl (by kernel_rfl) (fun _ _ _ h => h) rfl (fun w' hw' => by go_simp <;> with_reducible rfl) ?_
      simp only [Act.put, List.setIfInBounds_toArray, List.set_cons_zero, List.set_cons_succ]
      refine wpT.done (by kernel_rfl) ?_
      have d6 : Chg (fun _ => False) w w6 := (d5.drew).new c6' (fun x hx => by subst hx; exact hin)
      have hlen6 : (ss.take q ++ ss.drop (q + 1)).length = q + (k - (q + 1)) := by rw [List.length_append, List.length_take, List.length_drop, HLEN.out]; omega
      rw [← flat_append] at own6
      have OW6 := Lib.hid own6
      clear own6 in6 nn6
      go_wp2_with fail
      have hmem : ∀ t ∈ ss.take q ++ ss.drop (q + 1), t ∈ ss := fun t ht => by
        rcases List.mem_append.1 ht with h | h
        · exact List.mem_of_mem_take h
        · exact List.mem_of_mem_drop h
      refine (join_any _ _ (ss.take q ++ ss.drop (q + 1)) (by rw [hlen6]; exact OW6.out.reads) (fun t ht => ((R5.out t (hmem t ht)).1.drew).kept c6' (fun x hx e => (R5.out t (hmem t ht)).2 x hx e)) (fun t ht => HSEC.out t (hmem t ht)) (by rw [hlen6]; omega) (fun t ht => by have := HDL.out t (hmem t ht); omega)).mono ?_
      rintro e w7 ⟨v7, er6, rfl, c7, hj6⟩
      rcases hj6 with h6 | ⟨_, her, rfl⟩
      · exact absurd h6.1 (bad_left HSP.out q hqk HC.out (by omega))
      rcases her with rfl | rfl
      all_goals
        go_wp2_with fail
        go_ret
        exact ⟨rfl, d6.trans c7⟩

end Go.Proofs.Ytncgeeaifacapaa
