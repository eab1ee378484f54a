/- VaultForgets: one run (the closure), and the walk. -/
import Derived.Test.YtjhkhdockiocgaaL11a
import Derived.Deep.CutRange
namespace Go.Proofs.Ytjhkhdockiocgaa
open Go.RowKit Go.Cat

/-- A vault behind m seals. -/
def FR (w wr : World) (D V m : Nat) : Prop := ∃ J done S d, VU w wr D V J 60 (m % 2) (1 + m) done S d ∧ done ≠ []
/-- What a run tells: nothing, or the image of the device behind m seals and one of the image. -/
def RunOut (w' : World) (m : Nat) (image : List UInt8) (v' : Value) (b : Bool) : Prop := b = false ∨ (b = true ∧ ∃ d, VInv d 60 ((m + 1) % 2) (2 + m) [image] ∧ RB w' v' d.l.flatten)
theorem FR.chg {w wr : World} {D V m : Nat} (h : FR w wr D V m) : Chg (fun _ => False) w wr := by
  obtain ⟨_, _, _, _, h, _⟩ := h
  exact h.dj.1
def CommitOut (w w' : World) (D V m : Nat) (e : Ending) : Prop := ∃ x : Int, e = .returned (.int .i64 x) ∧ ((x = 0 ∧ FR w w' D V m) ∨ (x = 6 ∧ Chg (fun _ => False) w w'))
theorem fr_commit {w wr : World} {D V m : Nat} (h : FR w wr D V m) (hm : m ≤ 10) (v : Value) (l : List UInt8) (hv : RBz wr v l) (hl : l.length ≤ 600) :
    Calls Try.prog 41 #[.pointer (some ⟨V, 0, none⟩), v] wr fun e w' => CommitOut w w' D V m e := by
  obtain ⟨J, done, S, d, h1, h2⟩ := h
  by_cases hf : total done + costN l.length ≤ 60
  · refine (vcommit w wr D V J 60 _ _ done S d v l h1 hv hl hf (by omega) (by omega)).mono ?_
    rintro e w' ⟨rfl, ⟨d', h3⟩, _⟩
    exact ⟨0, rfl, .inl ⟨rfl, J, _, S, d', h3, by simp⟩⟩
  · obtain ⟨a, c, rfl⟩ := hv.form
    refine (vcommit_full w wr D V J 60 _ _ done S d a l.length c h1 (by omega) (by omega)).mono ?_
    rintro e w' ⟨rfl, c1⟩
    exact ⟨6, rfl, .inr ⟨rfl, h1.dj.1.trans c1⟩⟩
/-- The same, and an image's memory is none of the vault's. -/
def FRv (w wr : World) (D V m : Nat) (v : Value) (l : List UInt8) : Prop := ∃ J done S d, VU w wr D V J 60 (m % 2) (1 + m) done S d ∧ done ≠ [] ∧ ((l = [] ∧ ∃ a, v = .slice a 0 0) ∨ ∀ k, v.ownBlock = some k → k < w.heap.size ∨ S k)
theorem FR.old {w wr : World} {D V m : Nat} (h : FR w wr D V m) {v : Value} {l : List UInt8} (hv : RBz w v l) : FRv w wr D V m v l := by
  obtain ⟨J, done, S, d, h1, h2⟩ := h
  exact ⟨J, done, S, d, h1, h2, hv.elim (fun h => .inr fun k hk => .inl (h.lt' k hk)) .inl⟩
theorem FR.newer {w wr w' : World} {D V m : Nat} (h : FR w wr D V m) (c : Chg (fun _ => False) wr w') {v : Value} {l : List UInt8} (hv : RB w' v l) (hf : Fresh wr v) : FRv w w' D V m v l := by
  obtain ⟨J, done, S, d, h1, h2⟩ := h
  exact ⟨J, done, fun k => S k ∨ v.ownBlock = some k, d, h1.more c (fun _ h => .inl h) (fun k hk => hk.imp id (fun h => ⟨hf k h, hv.lt' k h⟩)), h2, .inr fun k hk => .inr (.inr hk)⟩
theorem FR.same {w wr w' : World} {D V m : Nat} (h : FR w wr D V m) (c : Chg (fun _ => False) wr w') : FR w w' D V m := by
  obtain ⟨J, done, S, d, h1, h2⟩ := h
  exact ⟨J, done, S, d, h1.same c, h2⟩
/-- Behind the last seal. -/
def FE (w wr : World) (D m : Nat) (image : List UInt8) : Prop := ∃ S d, DJ w wr D d S ∧ VInv d 60 ((m + 1) % 2) (2 + m) [image]
theorem fr_seal2 {w wr : World} {D V m : Nat} {v : Value} {l : List UInt8} (h : FRv w wr D V m v l) (hm : m ≤ 10) (hv : RBz wr v l) (hl : l.length ≤ 300) :
    Calls Try.prog 42 #[.pointer (some ⟨V, 0, none⟩), v] wr fun e w' => e = .returned (.int .i64 0) ∧ FR w w' D V (m + 1) ∧ FE w w' D m l := by
  obtain ⟨J, done, S, d, h1, h2, h3⟩ := h
  have hc := costN_le (n := l.length) (by omega)
  refine (vseal w wr D V J 60 _ _ done S d v l h1 h2 hv h3 (by omega) (by omega) (by omega) (by omega) (by omega) (by omega)).mono ?_
  rintro e w' ⟨rfl, ⟨J', d', h4⟩, _⟩
  have e1 : (m + 1) % 2 = 1 - m % 2 := by omega
  have e2 : 1 + (m + 1) = 1 + m + 1 := by omega
  have e3 : 2 + m = 1 + m + 1 := by omega
  exact ⟨rfl, ⟨J', [l], (fun k => S k ∨ k = J'), d', by rw [e1, e2]; exact h4, by simp⟩, ⟨_, d', h4.dj, by rw [e1, e3]; exact h4.inv⟩⟩
theorem fe_image {w wr : World} {D m : Nat} {image : List UInt8} (h : FE w wr D m image) :
    Calls Try.prog 43 #[.pointer (some ⟨D, 0, none⟩)] wr fun e w' => ∃ v', e = .returned v' ∧ RunOut w' m image v' true ∧ Chg (fun _ => False) w w' := by
  obtain ⟨S, d, h1, h2⟩ := h
  refine (dj_image w wr D d S h1).mono ?_
  rintro e w' ⟨v', rfl, h3, c, _⟩
  exact ⟨v', rfl, .inr ⟨rfl, d, h2, h3.rb⟩, h1.1.trans c⟩
theorem fr_format {w wr w' : World} {D : Nat} (h : DJ w wr D ⟨List.replicate 120 (zb 64), [], false, 0, 0, 0, 0⟩ (fun _ => False)) (c : Chg (fun _ => False) wr w') {v : Value} {l : List UInt8} (hv : RB w' v l) (hf : Fresh wr v) (hl : l.length ≤ 300) :
    Calls Try.prog 40 #[.pointer (some ⟨D, 0, none⟩), v] w' fun e w'' => ∃ V, e = .returned (.tuple #[.pointer (some ⟨V, 0, none⟩), .int .i64 0]) ∧ FR w w'' D V 0 := by
  have hc := costN_le (n := l.length) (by omega)
  refine (vformat w w' D 60 (fun k => False ∨ v.ownBlock = some k) _ v l (h.kept c (fun _ _ h => h.elim) (fun k hk => hk.imp id (fun h => ⟨hf k h, hv.lt' k h⟩))) dj_blank (.inl hv) (.inr fun k hk => .inr (.inr hk)) (by omega) (by omega) (by omega) (by omega)).mono ?_
  rintro e w2 ⟨V, J, d', rfl, h2, _⟩
  exact ⟨V, rfl, J, [l], _, d', h2, by simp⟩

set_option maxRecDepth 100000 in
set_option maxHeartbeats 4000000 in
theorem run11 (w : World) (lv : Value) (L : List (List UInt8)) (s image : List UInt8) (iv : Value) (s0 b2 b3 : Nat) (hL : RBs w lv L) (hI : RBz w iv image) (hil : image.length ≤ 300) (hsl : s.length ≤ 300) (h20 : L.length ≤ 20)
    (x2 : w.cell? ⟨b2, 0, none⟩ = some (.int .u8 s0)) (x3 : w.cell? ⟨b3, 0, none⟩ = some iv) :
    Calls Try.prog 39 #[lv, .string ⟨s.toArray⟩, .pointer (some ⟨b2, 0, none⟩), .pointer (some ⟨b3, 0, none⟩)] w fun e w' => ∃ v' b, e = .returned (.tuple #[v', .bool b]) ∧ RunOut w' (s0 % 5) image v' b ∧ Chg (fun _ => False) w w' := by
  obtain ⟨la, lc, rfl⟩ := hL.form
  obtain ⟨ia, ic, rfl⟩ := hI.form
  have HL := Lib.hid hL
  have HI := Lib.hid hI
  have X2 := Lib.hid x2
  have X3 := Lib.hid x3
  obtain ⟨n, hn⟩ : ∃ n, n = L.length := ⟨_, rfl⟩
  have HN := Lib.hid hn
  obtain ⟨m5, hm5⟩ : ∃ m5, m5 = s0 % 5 := ⟨_, rfl⟩
  have h5 : m5 ≤ 4 := by omega
  have e5 : (s0 : Int) % 5 = (m5 : Int) := by omega
  have E5 := Lib.hid e5
  have IL := Lib.hid hil
  obtain ⟨im, him⟩ : ∃ im, im = image.length := ⟨_, rfl⟩
  rw [← him] at X3
  rw [← hn] at h20
  have HIM := Lib.hid him
  rw [← hn, ← hm5]
  clear hL hI hn x2 x3 hm5 e5 him hil
  go_enter Try.func39, Try.ntmps39
  go_wp2_with fail
  refine (dj_new w w 120 (by omega) (by omega) (Chg.refl _ w)).mono ?_
  rintro e w1 ⟨D, rfl, h1, c1⟩
  have H1 := Lib.hid h1
  clear h1 c1
  obtain ⟨cv, cw, k1, k2, k3, k4⟩ := conv_bytes w1 s (by omega)
  have FM := Lib.hid (fr_format H1.out k3 k2 k4 hsl)
  clear k2 k3 k4
  go_wp2_with fail
  refine FM.out.mono ?_
  rintro e w2 ⟨V, rfl, f2⟩
  have F2 := Lib.hid f2
  clear f2 k1 FM H1
  go_wp2_with fail
  go_loopw [12, 13, 28] (fun a b i wr => ∃ k : Nat, k ≤ n ∧ i = .int .i64 k ∧ Hid (FR w wr D V (min k m5))) (fun _ _ i _ => n - (intOf i).toNat)
  case atStart => exact ⟨0, by omega, rfl, by rw [Nat.zero_min]; exact F2.out⟩
  case round =>
    obtain ⟨k, hk, rfl, hF⟩ := hrel
    have CH := Lib.hid hF.out.chg
    have y2 := CH.out.cell X2.out (fun h => h)
    have y3 := CH.out.cell X3.out (fun h => h)
    by_cases hlt : k < n
    · obtain ⟨l, hl⟩ := getElem?_some_lt (show k < L.length by rw [← HN.out]; exact hlt)
      obtain ⟨g, o, u, uc, hla, q1, z1⟩ := HL.out.at_ k l hl
      have x1 := CH.out.cell q1 (fun h => h)
      subst hla
      have Z1 := Lib.hid (z1.same CH.out)
      have ZW := Lib.hid z1
      obtain ⟨xl, hxl⟩ : ∃ x, x = l.length := ⟨_, rfl⟩
      have HXL := Lib.hid hxl
      rw [← hxl] at x1 Z1 ZW
      clear q1 z1 hl hxl
      by_cases hx : 100 < xl
      · have hxi : (100 : Int) < xl := by omega
        go_wp2_with fail
        go_ret2
        exact ⟨_, false, rfl, .inl rfl, CH.out⟩
      have hxi : ¬ (100 : Int) < xl := by omega
      have CM := Lib.hid (fr_commit hF.out (by omega) _ l Z1.out (by rw [← HXL.out]; omega))
      go_wp2_with fail
      refine CM.out.mono ?_
      rintro e w3 ⟨x, rfl, hcase⟩
      rcases hcase with ⟨rfl, f3⟩ | ⟨rfl, c3⟩
      · have F3 := Lib.hid f3
        have C3 := Lib.hid f3.chg
        have y2 := C3.out.cell X2.out (fun h => h)
        have y3 := C3.out.cell X3.out (fun h => h)
        by_cases hs : k < m5
        · have hsi : (k : Int) < m5 := by omega
          have e5 := E5.out
          have SL := Lib.hid (fr_seal2 (F3.out.old ZW.out) (by omega) (ZW.out.same C3.out) (by rw [← HXL.out]; omega))
          clear f3 CM hF
          go_wp2_with fail
          refine SL.out.mono ?_
          rintro e w4 ⟨rfl, f4, _⟩
          have F4 := Lib.hid f4
          clear f4
          go_wp2_with fail
          exact ⟨⟨k + 1, by omega, rfl, by rw [show min (k + 1) m5 = min k m5 + 1 by omega]; exact F4.out⟩, by simp only [intOf]; omega⟩
        · have hsi : ¬ (k : Int) < m5 := by omega
          have e5 := E5.out
          clear f3 CM hF
          go_wp2_with fail
          exact ⟨⟨k + 1, by omega, rfl, by rw [show min (k + 1) m5 = min k m5 by omega]; exact F3.out⟩, by simp only [intOf]; omega⟩
      · have C3 := Lib.hid c3
        clear c3 CM hF
        go_wp2_with fail
        go_ret2
        exact ⟨_, false, rfl, .inl rfl, C3.out⟩
    · obtain rfl : k = n := by omega
      have F0 : Hid (FR w wr D V (min k m5)) := hF
      clear y2 y3 hF CH
      go_wp2_with fail
      go_loopw [14] (fun j wr => ∃ i : Nat, k ≤ i ∧ i ≤ 20 ∧ j = .int .i64 i ∧ Hid (FR w wr D V (min i m5))) (fun j _ => 30 - (intOf j).toNat)
      case atStart => exact ⟨k, by omega, by omega, rfl, F0.out⟩
      case round =>
        obtain ⟨i, hi, hi2, rfl, hF⟩ := hrel
        have CH := Lib.hid hF.out.chg
        have y2 := CH.out.cell X2.out (fun h => h)
        have y3 := CH.out.cell X3.out (fun h => h)
        have e5 := E5.out
        by_cases hs : i < m5
        · have hsi : (i : Int) < m5 := by omega
          obtain ⟨cv2, cw2, k1, k2, k3, k4⟩ := conv_bytes wr s (by omega)
          have SL := Lib.hid (fr_seal2 (hF.out.newer k3 k2 k4) (by omega) (.inl k2) hsl)
          clear k2 k3 k4 hF
          go_wp2_with fail
          refine SL.out.mono ?_
          rintro e w4 ⟨rfl, f4, _⟩
          have F4 := Lib.hid f4
          clear f4 k1
          go_wp2_with fail
          exact ⟨⟨i + 1, by omega, by omega, rfl, by rw [show min (i + 1) m5 = min i m5 + 1 by omega]; exact F4.out⟩, by simp only [intOf]; omega⟩
        · have hsi : ¬ (i : Int) < m5 := by omega
          have ZI := (show RBz w (.slice ia im ic) image by rw [HIM.out]; exact HI.out).same CH.out
          have SL := Lib.hid (fr_seal2 (hF.out.old (show RBz w (.slice ia im ic) image by rw [HIM.out]; exact HI.out)) (by omega) ZI IL.out)
          have hmin : Hid (min i m5 = m5) := by show _ = _; omega
          rw [hmin.out] at SL
          clear hF ZI
          go_wp2_with fail
          refine SL.out.mono ?_
          rintro e w4 ⟨rfl, _, f4⟩
          have IM := Lib.hid (fe_image f4)
          clear f4
          go_wp2_with fail
          refine IM.out.mono ?_
          rintro e w5 ⟨v', rfl, ho, c5⟩
          have HO := Lib.hid ho
          have C5 := Lib.hid c5
          clear ho c5
          go_wp2_with fail
          go_ret2
          exact ⟨_, true, rfl, HO.out, C5.out⟩
theorem RunOut.same {w w' : World} {m : Nat} {image : List UInt8} {v : Value} {b : Bool} (h : RunOut w m image v b) (c : Chg (fun _ => False) w w') : RunOut w' m image v b := by
  rcases h with h | ⟨h1, d, h2, h3⟩
  · exact .inl h
  · exact .inr ⟨h1, d, h2, h3.kept c (fun _ _ h => h)⟩
set_option maxRecDepth 100000 in
set_option maxHeartbeats 4000000 in
theorem forgets (av bv iv : Value) (L K : List (List UInt8)) (s0 : Nat) (image : List UInt8) (w : World) (hL : RBs w av L) (hK : RBs w bv K) (hI : RBz w iv image) :
    Calls Try.prog 10 #[av, bv, .int .u8 s0, iv] w fun e w' => e = .returned (.bool true) ∧ Chg (fun _ => False) w w' := by
  obtain ⟨la, lc, rfl⟩ := hL.form
  obtain ⟨ka, kc, rfl⟩ := hK.form
  obtain ⟨ia, ic, rfl⟩ := hI.form
  have HL := Lib.hid hL
  have HK := Lib.hid hK
  have HI := Lib.hid hI
  obtain ⟨n, hn⟩ : ∃ n, n = L.length := ⟨_, rfl⟩
  obtain ⟨m, hm⟩ : ∃ n, n = K.length := ⟨_, rfl⟩
  obtain ⟨q, hq⟩ : ∃ n, n = image.length := ⟨_, rfl⟩
  rw [← hn] at HL
  rw [← hm] at HK
  rw [← hq] at HI
  rw [← hn, ← hm, ← hq]
  have HN := Lib.hid hn
  have HM := Lib.hid hm
  have HQ := Lib.hid hq
  clear hL hK hI hn hm hq
  go_enter Try.func10, Try.ntmps10
  go_wp2_with fail
  refine (lives11 _).mono ?_
  rintro e w1 ⟨rfl, c1⟩
  have c0 : Chg (fun _ => False) w ((w.alloc (.cells #[.int .u8 s0] 5)).alloc (.cells #[.slice ia q ic] 33)) := ((Chg.refl _ w).alloc _).alloc _
  have h2 := c1.heap (Chg.heap ((Chg.refl (fun _ => False) (w.alloc (.cells #[.int .u8 s0] 5))).alloc (.cells #[.slice ia q ic] 33)) (heap_at_new w (.cells #[.int .u8 s0] 5) _ rfl) (fun h => h)) (fun h => h)
  have h3 := c1.heap (heap_at_new (w.alloc (.cells #[.int .u8 s0] 5)) (.cells #[.slice ia q ic] 33) _ rfl) (fun h => h)
  have x2 : w1.cell? ⟨w.heap.size, 0, none⟩ = some (.int .u8 s0) := by rw [cell_of_heap h2]; rfl
  have x3 : w1.cell? ⟨w.heap.size + 1, 0, none⟩ = some (.slice ia q ic) := by rw [← World.size_alloc w (.cells #[.int .u8 s0] 5), cell_of_heap h3]; rfl
  have C1 := Lib.hid (c0.trans c1)
  clear c0 c1 h2 h3
  by_cases hb : 20 < n ∨ 20 < m ∨ 300 < q
  · by_cases b1 : 20 < n
    · have i1 : (20 : Int) < n := by omega
      go_wp2_with fail
      refine (lives11 _).mono ?_
      rintro e w2 ⟨rfl, c2⟩
      go_wp2_with fail
      go_ret
      exact ⟨rfl, C1.out.trans c2⟩
    have i1 : ¬ (20 : Int) < n := by omega
    by_cases b2 : 20 < m
    · have i2 : (20 : Int) < m := by omega
      go_wp2_with fail
      refine (lives11 _).mono ?_
      rintro e w2 ⟨rfl, c2⟩
      go_wp2_with fail
      go_ret
      exact ⟨rfl, C1.out.trans c2⟩
    have i2 : ¬ (20 : Int) < m := by omega
    have i3 : (300 : Int) < q := by omega
    go_wp2_with fail
    refine (lives11 _).mono ?_
    rintro e w2 ⟨rfl, c2⟩
    go_wp2_with fail
    go_ret
    exact ⟨rfl, C1.out.trans c2⟩
  have b1 : n ≤ 20 := by omega
  have b2 : m ≤ 20 := by omega
  have b3 : q ≤ 300 := by omega
  have i1 : ¬ (20 : Int) < n := by omega
  have i2 : ¬ (20 : Int) < m := by omega
  have i3 : ¬ (300 : Int) < q := by omega
  clear hb
  have R1 := Lib.hid (run11 w1 _ L [102, 105, 114, 115, 116] image _ s0 w.heap.size (w.heap.size + 1) (HL.out.same C1.out) (HI.out.same C1.out) (by rw [← HQ.out]; exact b3) (by simp) (by rw [← HN.out]; exact b1) x2 x3)
  go_wp2_with fail
  refine R1.out.mono ?_
  rintro e w2 ⟨v1, t1, rfl, o1, c2⟩
  have C2 := Lib.hid (C1.out.trans c2)
  have x2 := c2.cell x2 (fun h => h)
  have x3 := c2.cell x3 (fun h => h)
  have R2 := Lib.hid (run11 w2 _ K [97, 110, 111, 116, 104, 101, 114, 32, 111, 110, 101] image _ s0 w.heap.size (w.heap.size + 1) (HK.out.same C2.out) (HI.out.same C2.out) (by rw [← HQ.out]; exact b3) (by simp) (by rw [← HM.out]; exact b2) x2 x3)
  have O1 := Lib.hid o1
  clear R1 c2 o1
  go_wp2_with fail
  refine R2.out.mono ?_
  rintro e w3 ⟨v2, t2, rfl, o2, c3⟩
  have C3 := Lib.hid (C2.out.trans c3)
  have o1 := O1.out.same c3
  clear R2 c3
  rcases o1 with rfl | ⟨rfl, d1, d2, d3⟩
  · clear o2
    go_wp2_with fail
    go_ret
    exact ⟨rfl, C3.out⟩
  rcases o2 with rfl | ⟨rfl, e1, e2, e3⟩
  · clear d3
    go_wp2_with fail
    go_ret
    exact ⟨rfl, C3.out⟩
  have k1 := convb w3 _ _ d3
  have k2 := convb w3 _ _ e3
  rw [← d2.eq e2] at k2
  generalize d1.l.flatten = bytes at k1 k2
  clear d2 d3 e2 e3
  go_wp2_with fail
  go_ret
  exact ⟨rfl, C3.out⟩
end Go.Proofs.Ytjhkhdockiocgaa
