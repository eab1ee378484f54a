/- The contract of vault.Format on a new device (law level). -/
import Derived.Test.YtjhkhdockiocgaaVault5
namespace Go.Proofs.Ytjhkhdockiocgaa
open Go.RowKit Go.Cat

/-- A device that is up and bears nothing. -/
structure Blank (d : Dev) (N : Nat) : Prop where
  l : d.l = List.replicate N (zb 64)
  waits : d.waits = []
  dn : d.down = false
  lf : d.left = 0
theorem flush_blank {N b q : Nat} (h : b + q ≤ N) : flushTo (List.replicate N (zb 64)) (wat b (List.replicate q (zb 64))) = List.replicate N (zb 64) := by
  obtain ⟨h1, h2⟩ := flushTo_wat (List.replicate q (zb 64)) (List.replicate N (zb 64)) b (by rw [List.length_replicate, List.length_replicate]; exact h)
  apply List.ext_getElem?
  intro i
  rw [h2]
  split
  · rename_i hi
    rw [List.length_replicate] at hi
    rw [List.getElem?_replicate, if_pos (by omega), List.getElem?_replicate, if_pos (by omega)]
  · rfl
theorem maxT_blank (N : Nat) : maxT (List.replicate N (zb 64)) = 0 := Nat.le_zero.1 (maxT_le fun x hx => by rw [(List.mem_replicate.1 hx).2, turnB_zb]; exact Nat.le_refl _)
theorem dj_vcheck (w0 w : World) (D : Nat) (d : Dev) (S : Nat → Prop) (h : DJ w0 w D d S) (hd : d.down = false) (h8 : 8 ≤ d.l.length) :
    Calls Try.prog 83 #[.pointer (some ⟨D, 0, none⟩)] w fun e w' => e = .returned (.int .i64 0) ∧ w = w' := by
  obtain ⟨lv, wv, h2⟩ := dj_dev h
  exact vcheck w D lv wv d h2 hd h8
/-- An image is put on a device that bears nothing. -/
theorem blank_begin {q : Nat} (hq : q ≤ 8192) (image : List UInt8) (hf : costN image.length ≤ q) (d : Dev) (hd : d.l = flushTo (List.replicate (2 * q) (zb 64)) (wat 0 (recSecs 1 0 image))) (hw : d.waits = []) : VInv d q 0 1 [image] := by
  have hrl := recSecs_length 1 0 image
  have s64 : ∀ x ∈ recSecs 1 0 image, x.length = 64 := fun x hx => by
    obtain ⟨i, _, rfl⟩ := List.mem_map.1 hx
    exact recSec_len _ _ _ _
  have r64 : ∀ x ∈ List.replicate (2 * q) (zb 64), x.length = 64 := fun x hx => by rw [(List.mem_replicate.1 hx).2]; simp
  obtain ⟨a1, a2⟩ := flushTo_wat (recSecs 1 0 image) (List.replicate (2 * q) (zb 64)) 0 (by rw [hrl, List.length_replicate]; omega)
  have htot : total [image] = costN image.length := by simp [total]
  have hsec : secsOf 1 0 [image] = recSecs 1 0 image := by simp [secsOf]
  refine VInv.mk' (by omega) (by omega) (by omega) hq (by rw [hd, a1, List.length_replicate]) hw (by rw [htot]; exact hf) (by rw [hd]; exact wat_set64 (by rw [hrl, List.length_replicate]; omega) s64 r64) (fun i hi => ?_)
  rw [hd, a2, htot, hsec, hrl]
  simp only [Nat.zero_mul, Nat.zero_add, Nat.sub_zero, Nat.zero_le, true_and]
  by_cases h1 : i < costN image.length
  · rw [if_pos h1, if_pos h1]
  · rw [if_neg h1, if_neg h1, List.getElem?_replicate, if_pos (by omega)]

set_option maxRecDepth 100000 in
set_option maxHeartbeats 2000000 in
theorem vformat (w0 w : World) (D q : Nat) (S : Nat → Prop) (d : Dev) (v : Value) (l : List UInt8) (h : DJ w0 w D d S) (hb : Blank d (2 * q)) (hv : RBz w v l) (hvS : (l = [] ∧ ∃ a, v = .slice a 0 0) ∨ ∀ k, v.ownBlock = some k → k < w0.heap.size ∨ S k) (hl : l.length ≤ 600) (hfit : costN l.length ≤ q) (hq : 4 ≤ q) (hq2 : q ≤ 4096) :
    Calls Try.prog 40 #[.pointer (some ⟨D, 0, none⟩), v] w fun e w' => ∃ V J d', e = .returned (.tuple #[.pointer (some ⟨V, 0, none⟩), .int .i64 0]) ∧ VU w0 w' D V J q 0 1 [l] (fun k => (S k ∨ k = J) ∨ k = V) d' ∧ ∃ T, Chg T w w' ∧ ∀ k, k < w.heap.size → T k → w0.heap.size ≤ k ∧ ¬ S k := by
  obtain ⟨va, vc, rfl⟩ := hv.form
  have hN : d.l.length = 2 * q := by rw [hb.l, List.length_replicate]
  have hCc := costN_le hl
  have VC := Lib.hid (dj_vcheck w0 w D d S h hb.dn (by omega))
  have SZ0 := dj_size w0 w D d S h
  rw [hN, show 2 * q / 2 = q by omega] at SZ0
  have SZ := Lib.hid SZ0
  have NX0 := dj_vnext w0 w D d S h hb.dn (by omega) hb.waits (by rw [hb.l]; exact fun x hx => by rw [(List.mem_replicate.1 hx).2]; exact zb_known) (by rw [hb.l, maxT_blank]; omega)
  rw [hb.l, maxT_blank] at NX0
  have NX := Lib.hid NX0
  have CO : Hid (∀ w, Calls Try.prog 37 #[.int .i64 l.length] w fun e w' => e = .returned (.int .i64 (costN l.length)) ∧ w = w') := fun w => cost_any _ w (by omega)
  obtain ⟨c, hc⟩ : ∃ c, c = costN l.length := ⟨_, rfl⟩
  have HCN := Lib.hid hc
  rw [← hc] at CO hfit hCc
  have HD := Lib.hid h
  have HB := Lib.hid hb
  have HRB := Lib.hid hv
  have HVS := Lib.hid hvS
  have HL := Lib.hid hl
  have i1 : ¬ (q : Int) < c := by omega
  clear h hb hv hvS hl hN hc SZ0 NX0
  go_enter Try.func40, Try.ntmps40
  go_wp2_with (first | (go_at_call 83; refine VC.out.mono ?_; rintro e w' ⟨rfl, rfl⟩) | (go_at_call 37; refine (CO.out _).mono ?_; rintro e w' ⟨rfl, rfl⟩) | (go_at_call 84; refine SZ.out.mono ?_; rintro e w' ⟨rfl, rfl⟩))
  refine NX.out.mono ?_
  rintro e w1 ⟨rfl, c1⟩
  have HD1 := Lib.hid (HD.out.same c1)
  have HR1 := Lib.hid (HRB.out.same c1)
  have C1 := Lib.hid c1
  clear c1 VC SZ NX i1
  go_wp2_with fail
  go_loopw [31] (fun i wr => ∃ (k : Nat) (d' : Dev), k ≤ 2 ∧ i = .int .i64 k ∧ Hid (DJ w0 wr D d' S) ∧ Hid (Blank d' (2 * q)) ∧ Hid (RBz wr (.slice va l.length vc) l) ∧ Hid (∃ T, Chg T w wr ∧ ∀ k, k < w.heap.size → T k → w0.heap.size ≤ k ∧ ¬ S k)) (fun i _ => 2 - (intOf i).toNat)
  case atStart => exact ⟨0, d, by omega, rfl, HD1.out, HB.out, HR1.out, ⟨fun _ => False, C1.out, fun _ _ h => h.elim⟩⟩
  case round =>
    obtain ⟨k, d', hk, rfl, hD, hB, hR, hT⟩ := hrel
    have hN : d'.l.length = 2 * q := by rw [hB.out.l, List.length_replicate]
    by_cases hlt : k < 2
    · have hkI : (k : Int) < 2 := by omega
      have WP := dj_vwipe w0 wr D d' S k (by omega) hD.out hB.out.dn hB.out.lf (by omega) hB.out.waits
      have hkq : k * q + q ≤ 2 * q := by have : k * q ≤ 1 * q := Nat.mul_le_mul_right _ (by omega); omega
      rw [hN, show 2 * q / 2 = q by omega, hB.out.l, flush_blank hkq] at WP
      have WPH := Lib.hid WP
      clear WP hN
      go_wp2_with fail
      refine WPH.out.mono ?_
      rintro e w2 ⟨rfl, h2, T2, c2, t2⟩
      have H2 := Lib.hid h2
      have hr2 : Hid (RBz w2 (.slice va l.length vc) l) := by
        rcases HVS.out with hzz | hvs
        · exact .inr hzz
        rcases hR.out with hr | hr
        · refine .inl (hr.kept c2 (fun a ha ht => ?_))
          obtain ⟨g1, g2⟩ := t2 a (hr.lt' a ha) ht
          rcases hvs a ha with h | h
          · omega
          · exact g2 h
        · exact .inr hr
      have hT2 : Hid (∃ T, Chg T w w2 ∧ ∀ k, k < w.heap.size → T k → w0.heap.size ≤ k ∧ ¬ S k) := by
        obtain ⟨T, cT, tT⟩ := hT.out
        refine ⟨fun k => T k ∨ T2 k, (cT.mono (fun _ _ h => .inl h)).trans (c2.mono (fun _ _ h => .inr h)), fun a ha ht => ?_⟩
        rcases ht with ht | ht
        · exact tT a ha ht
        · exact t2 a (by have := cT.size; omega) ht
      have hB2 : Hid (Blank { d' with l := List.replicate (2 * q) (zb 64), waits := [] } (2 * q)) := ⟨rfl, rfl, hB.out.dn, hB.out.lf⟩
      clear h2 c2 t2
      go_wp2_with fail
      exact ⟨⟨k + 1, _, by omega, rfl, H2.out, hB2.out, hr2.out, hT2.out⟩, by simp only [intOf]; omega⟩
    · obtain rfl : k = 2 := by omega
      have BG := vbegin w0 wr D d' S 0 1 (.slice va l.length vc) l hD.out (by omega) hR.out hB.out.dn hB.out.lf (by omega) (by omega) HL.out (by rw [hN, ← HCN.out]; omega) (by omega) (by omega) (by rw [hB.out.waits]; simp)
      rw [hN, show 2 * q / 2 = q by omega, hB.out.l, hB.out.waits, List.nil_append, Nat.zero_mul] at BG
      have BGH := Lib.hid BG
      clear BG hN
      go_wp2_with fail
      refine BGH.out.mono ?_
      rintro e w3 ⟨J, rfl, h3, j3, z3, T3, c3, t3⟩
      have H3 := Lib.hid h3
      have J3 := Lib.hid j3
      have C3 := Lib.hid c3
      have T3' := Lib.hid t3
      clear h3 j3 z3 c3 t3
      go_wp2_with fail
      go_ret2
      have hJl := J3.out.lt
      have ca : Chg (fun _ => False) w3 (w3.alloc (.cells #[.pointer (some ⟨D, 0, none⟩), .int .i64 0, .int .u32 1, .pointer (some ⟨J, 0, none⟩)] 152)) := (Chg.refl _ w3).alloc _
      obtain ⟨T, cT, tT⟩ := hT.out
      refine ⟨w3.heap.size, J, _, rfl, ⟨H3.out.kept ca (fun _ _ h => h.elim) (fun k hk => by
        rcases hk with hk | hk
        · exact .inl hk
        · exact .inr ⟨by omega, by rw [hk]; simp⟩), blank_begin (by omega) l (by rw [← HCN.out]; exact hfit) _ rfl rfl, hB.out.dn, hB.out.lf, ⟨_, heap_at_new _ _ _ rfl⟩, by
          have e1 : total [l] = costN l.length := by simp [total]
          rw [e1, Nat.zero_mul]
          exact J3.out.kept ca (fun h => h), .inr rfl, .inl (.inr rfl), by omega⟩, fun k => T k ∨ T3 k, ((cT.mono (fun _ _ h => .inl h)).trans (C3.out.mono (fun _ _ h => .inr h))).alloc _, fun a ha ht => ?_⟩
      rcases ht with ht | ht
      · exact tT a ha ht
      · exact T3'.out a (by have := cT.size; omega) ht
end Go.Proofs.Ytjhkhdockiocgaa
