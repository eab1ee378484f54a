/- The contract of vault.Seal (law level). -/
import Derived.Test.YtjhkhdockiocgaaVault4
namespace Go.Proofs.Ytjhkhdockiocgaa
open Go.RowKit Go.Cat

theorem dj_vwipe (w0 w : World) (D : Nat) (d : Dev) (S : Nat → Prop) (half : Nat) (hh : half ≤ 1) (h : DJ w0 w D d S) (hd : d.down = false) (hl0 : d.left = 0) (h8 : 8 ≤ d.l.length) (hw : d.waits = []) :
    Calls Try.prog 86 #[.pointer (some ⟨D, 0, none⟩), .int .i64 half] w fun e w' => e = .returned (.int .i64 0) ∧ DJ w0 w' D { d with l := flushTo d.l (wat (half * (d.l.length / 2)) (List.replicate (d.l.length / 2) (zb 64))), waits := [] } S ∧
      ∃ T, Chg T w w' ∧ ∀ k, k < w.heap.size → T k → w0.heap.size ≤ k ∧ ¬ S k := by
  obtain ⟨h3, h4, lv, wv, h5, h6⟩ := h
  refine (vwipe w D lv wv d half hh h5 hd hl0 h8 (by rw [hw]; simp)).mono ?_
  rintro e w' ⟨rfl, h7, T, c, h8⟩
  rw [hw, List.nil_append] at h7
  have hT : ∀ k, k < w.heap.size → T k → w0.heap.size ≤ k ∧ ¬ S k := fun k hk ht => h6 k (h8 k hk ht)
  exact ⟨rfl, DJ.next h3 h4 h5 h6 h7 c (fun k hk ht => (hT k hk ht).1) (by simp [Value.ownBlock]), _, c, hT⟩
theorem dj_vnext (w0 w : World) (D : Nat) (d : Dev) (S : Nat → Prop) (h : DJ w0 w D d S) (hd : d.down = false) (h1 : 1 ≤ d.l.length) (hw : d.waits = []) (hX : KnownAll d.l) (hm : maxT d.l < 4294967295) :
    Calls Try.prog 85 #[.pointer (some ⟨D, 0, none⟩)] w fun e w' => e = .returned (.tuple #[.int .u32 ((maxT d.l + 1 : Nat) : Int), .int .i64 0]) ∧ Chg (fun _ => False) w w' := by
  obtain ⟨lv, wv, h2⟩ := dj_dev h
  exact vnext w D lv wv d h2 hd h1 hw hX hm

theorem RBz.keptS {w w' : World} {v : Value} {l : List UInt8} (h : RBz w v l) {T : Nat → Prop} (c : Chg T w w') (hT : ∀ k, v.ownBlock = some k → ¬ T k) : RBz w' v l := by
  rcases h with h | h
  · exact .inl (h.kept c hT)
  · exact .inr h
set_option maxRecDepth 100000 in
set_option maxHeartbeats 2000000 in
theorem vseal (w0 w : World) (D V J q half t : Nat) (done : List (List UInt8)) (S : Nat → Prop) (d : Dev) (v : Value) (l : List UInt8) (h : VU w0 w D V J q half t done S d) (hne : done ≠ []) (hv : RBz w v l) (hvS : (l = [] ∧ ∃ a, v = .slice a 0 0) ∨ ∀ k, v.ownBlock = some k → k < w0.heap.size ∨ S k) (hl : l.length ≤ 600) (hfit : costN l.length ≤ q) (ht : t < 1000000) (h0 : t ≠ 0) (hq : 4 ≤ q) (hq2 : q ≤ 4096) :
    Calls Try.prog 42 #[.pointer (some ⟨V, 0, none⟩), v] w fun e w' => e = .returned (.int .i64 0) ∧ (∃ J' d', VU w0 w' D V J' q (1 - half) (t + 1) [l] (fun k => S k ∨ k = J') d') ∧ ∃ T, Chg T w w' ∧ ∀ k, k < w.heap.size → T k → w0.heap.size ≤ k ∧ (S k → k = V) := by
  obtain ⟨va, vc, rfl⟩ := hv.form
  have hlen := h.inv.len
  have hdiv : d.l.length / 2 = q := by omega
  have q0 := h.vis.at 0 _ rfl
  have q1 := h.vis.at 1 _ rfl
  have hCc := costN_le hl
  have CO : Hid (∀ w, Calls Try.prog 37 #[.int .i64 l.length] w fun e w' => e = .returned (.int .i64 (costN l.length)) ∧ w = w') := fun w => cost_any _ w (by omega)
  have SZ : Hid (∀ n, Calls Try.prog 84 #[.pointer (some ⟨D, 0, none⟩)] (w.drewN n) fun e w' => e = .returned (.int .i64 q) ∧ w.drewN n = w') := fun n => by
    have := dj_size w0 (w.drewN n) D d S (h.dj.same ((Chg.refl _ w).drewN n))
    rw [hdiv] at this
    exact this
  obtain ⟨c, hc⟩ : ∃ c, c = costN l.length := ⟨_, rfl⟩
  have HCN := Lib.hid hc
  rw [← hc] at CO hfit hCc
  have hmx := h.inv.max (by omega) h0 hne
  have HVS := Lib.hid hvS
  have HV := Lib.hid h
  have HRB := Lib.hid hv
  have HL := Lib.hid hl
  have HLEN := Lib.hid hlen
  have HDIV := Lib.hid hdiv
  have HMX := Lib.hid hmx
  have i1 : ¬ (q : Int) < c := by omega
  clear h hv hvS hl hlen hdiv hc hmx
  go_enter Try.func42, Try.ntmps42
  go_wp2_with fail
  go_quiet (first | ((go_at_call 37; refine Calls.quiet_of ((CO.out _).mono (fun e w' h => ⟨h.1, 0, h.2.symm⟩)))) | ((go_at_call 84; refine Calls.quiet_of ((SZ.out _).mono (fun e w' h => ⟨h.1, 0, h.2.symm⟩)))))
  have cq : Chg (fun _ => False) w (w.drewN nq) := (Chg.refl _ w).drewN nq
  generalize w.drewN nq = wa at cq ⊢
  have hdj := HV.out.dj.same cq
  have hvi := HV.out.vis.kept cq (fun h => h)
  have NX := Lib.hid (dj_vnext w0 wa D d S hdj HV.out.dn (by have := HLEN.out; omega) HV.out.inv.waits (HV.out.inv.known (by omega) h0) (by rw [HMX.out]; omega))
  rw [HMX.out] at NX
  have e1 : ((t + 1 : Nat) : Int) = (t : Int) + 1 := by omega
  rw [e1] at NX
  have HDJ := Lib.hid hdj
  have HVI := Lib.hid hvi
  have HRA := Lib.hid (HRB.out.same cq)
  have CQ := Lib.hid cq
  have q0 := hvi.at 0 _ rfl
  have q1 := hvi.at 1 _ rfl
  clear SZ CO cq hdj hvi i1
  go_wp2_with fail
  refine NX.out.mono ?_
  rintro e w1 ⟨rfl, c1⟩
  have HVI1 := Lib.hid (HVI.out.kept c1 (fun h => h))
  have HDJ1 := Lib.hid (HDJ.out.same c1)
  have C1 := Lib.hid (CQ.out.trans c1)
  have HR1 := Lib.hid (HRA.out.same c1)
  have q0 := HVI1.out.at 0 _ rfl
  have q1 := HVI1.out.at 1 _ rfl
  have hh := HV.out.inv.h1
  obtain ⟨o, ho⟩ : ∃ o, o = 1 - half := ⟨_, rfl⟩
  have hoi : (1 : Int) - (half : Int) = (o : Int) := by omega
  have ho1 : o ≤ 1 := by omega
  have HO := Lib.hid ho
  have HOI : Hid ((1 : Int) - (half : Int) = (o : Int)) := hoi
  have WP := Lib.hid (dj_vwipe w0 w1 D d S o ho1 HDJ1.out HV.out.dn HV.out.lf (by have := HLEN.out; omega) HV.out.inv.waits)
  rw [HDIV.out] at WP
  clear c1 NX hoi ho
  go_wp2_with fail
  rw [HOI.out]
  refine WP.out.mono ?_
  rintro e w2 ⟨rfl, h2, T2, c2, t2⟩
  obtain ⟨l1, hl1⟩ : ∃ l1, l1 = flushTo d.l (wat (o * q) (List.replicate q (zb 64))) := ⟨_, rfl⟩
  rw [← hl1] at h2
  have hoq : o * q + q ≤ 2 * q := by have : o * q ≤ 1 * q := Nat.mul_le_mul_right _ ho1; omega
  have hn1 : l1.length = 2 * q := by rw [hl1, (flushTo_wat _ d.l _ (by rw [List.length_replicate, HLEN.out]; exact hoq)).1, HLEN.out]
  have hVl : ∀ (W : World), w1.heap.size ≤ W.heap.size → V < W.heap.size := fun W hz => by have := (HDJ1.out.2.1 V HV.out.sV).2; omega
  have hvi2 := HVI1.out.kept c2 (fun ht => (t2 V (hVl w1 (Nat.le_refl _)) ht).2 HV.out.sV)
  have hr2 : RBz w2 (.slice va l.length vc) l := by
    rcases HVS.out with hzz | hvs
    · exact .inr hzz
    rcases HR1.out with hr | hr
    · refine .inl (hr.kept c2 (fun k hk ht => ?_))
      have hkl := hr.lt' k hk
      obtain ⟨g1, g2⟩ := t2 k hkl ht
      rcases hvs k hk with h | h
      · omega
      · exact g2 h
    · exact .inr hr
  have BG := Lib.hid (vbegin w0 w2 D { d with l := l1, waits := [] } S o (t + 1) (.slice va l.length vc) l h2 ho1 hr2 HV.out.dn HV.out.lf (by show 8 ≤ l1.length; omega) (by show l1.length ≤ 8192; omega) HL.out (by show costN l.length ≤ l1.length / 2; rw [← HCN.out, hn1]; omega) (by omega) (by omega) (by simp))
  simp only [hn1, show 2 * q / 2 = q by omega, List.nil_append, show ((t + 1 : Nat) : Int) = (t : Int) + 1 by omega] at BG
  have HL1 := Lib.hid hl1
  have HN1 := Lib.hid hn1
  have HVI2 := Lib.hid hvi2
  have C2 := Lib.hid c2
  have T2' := Lib.hid t2
  have q0 := hvi2.at 0 _ rfl
  have q1 := hvi2.at 1 _ rfl
  clear h2 c2 t2 hl1 hvi2 e1
  go_wp2_with fail
  refine BG.out.mono ?_
  rintro e w3 ⟨J', rfl, h3, j3, z3, T3, c3, t3⟩
  obtain ⟨l2, hl2⟩ : ∃ l2, l2 = flushTo l1 (wat (o * q) (recSecs (t + 1) 0 l)) := ⟨_, rfl⟩
  rw [← hl2] at h3
  have hn2 : l2.length = 2 * q := by rw [hl2, (flushTo_wat _ l1 _ (by rw [recSecs_length, HN1.out, ← HCN.out]; omega)).1, HN1.out]
  have hVd := HDJ1.out.2.1 V HV.out.sV
  have hz2 := C2.out.size
  have hvi3 := HVI2.out.kept c3 (fun ht => (t3 V (by omega) ht).2 HV.out.sV)
  obtain ⟨TV, hb3⟩ := hvi3.heap
  have q0 := hvi3.at 0 _ rfl
  have q1 := hvi3.at 1 _ rfl
  have q2 := hvi3.at 2 _ rfl
  have q3 := hvi3.at 3 _ rfl
  have f1 : w3.frozen? ⟨V, 1, none⟩ = false := frozen_of_heap hb3 1
  have f2 : w3.frozen? ⟨V, 2, none⟩ = false := frozen_of_heap hb3 2
  have f3 : w3.frozen? ⟨V, 3, none⟩ = false := frozen_of_heap hb3 3
  obtain ⟨w4, hw4⟩ : ∃ w4, w4 = ((w3.setCell ⟨V, 1, none⟩ (.int .i64 o)).setCell ⟨V, 2, none⟩ (.int .u32 ((t : Int) + 1))).setCell ⟨V, 3, none⟩ (.pointer (some ⟨J', 0, none⟩)) := ⟨_, rfl⟩
  have c34 : Chg (fun k => k = V) w3 w4 := by
    rw [hw4]
    exact Chg.setCell (S := fun k => k = V) (Chg.setCell (S := fun k => k = V) (Chg.setCell (S := fun k => k = V) (Chg.refl _ w3) (p := ⟨V, 1, none⟩) (fun _ => rfl) _) (p := ⟨V, 2, none⟩) (fun _ => rfl) _) (p := ⟨V, 3, none⟩) (fun _ => rfl) _
  have hb4 := Cat.heap_setCell_same (Cat.heap_setCell_same (Cat.heap_setCell_same hb3 1 (.int .i64 o)) 2 (.int .u32 ((t : Int) + 1))) 3 (.pointer (some ⟨J', 0, none⟩))
  rw [← hw4] at hb4
  have hvi4 : VIs w4 V D o (t + 1) J' := ⟨TV, hb4⟩
  have hne4 : V ≠ J' := by omega
  have j4 := j3.kept c34 (fun h => hne4 h.symm)
  have h4 : DJ w0 w4 D { d with l := l2, waits := [] } (fun k => S k ∨ k = J') := h3.kept c34 (fun k _ hk => .inl (by have e : k = V := hk; rw [e]; exact HV.out.sV)) (fun k hk => .inl hk)
  have WP2 := Lib.hid (dj_vwipe w0 w4 D { d with l := l2, waits := [] } (fun k => S k ∨ k = J') half hh h4 HV.out.dn HV.out.lf (by show 8 ≤ l2.length; omega) rfl)
  simp only [hn2, show 2 * q / 2 = q by omega] at WP2
  have HL2 := Lib.hid hl2
  have HVI4 := Lib.hid hvi4
  have J4 := Lib.hid j4
  have HB4 := Lib.hid hb4
  have C34 := Lib.hid c34
  have C3 := Lib.hid c3
  have T3' := Lib.hid t3
  have HW4 := Lib.hid hw4
  have Z3 := Lib.hid z3
  clear hb3 hl2 hvi3 hb4 c34 hvi4 j4 h4 h3 j3 z3 c3 t3 hw4 BG
  go_wp2_with fail
  rw [← HW4.out]
  refine WP2.out.mono ?_
  rintro e w5 ⟨rfl, h5, T5, c5, t5⟩
  have H5 := Lib.hid h5
  have C5 := Lib.hid c5
  have T5' := Lib.hid t5
  clear h5 c5 t5
  go_wp2_with fail
  go_ret
  have hz1 := C1.out.size
  have hz3 := C3.out.size
  have hz4 := C34.out.size
  have hJ4 := J4.out.lt
  have hVI5 := HVI4.out.kept C5.out (fun ht => (T5'.out V (by omega) ht).2 (.inl HV.out.sV))
  have hJI5 := J4.out.kept C5.out (fun ht => (T5'.out J' hJ4 ht).2 (.inr rfl))
  have hsl := HV.out.inv.seal (by omega) (by omega) l (by rw [← HCN.out]; exact hfit)
  rw [← HO.out, ← HL1.out, ← HL2.out] at hsl
  have hji : JIs w5 J' D ((1 - half) * q) q (t + 1) (total [l]) := by
    have e1 : total [l] = costN l.length := by simp [total]
    rw [e1, ← HO.out, ← HCN.out]
    have := hJI5
    rw [← HCN.out] at this
    exact this
  refine ⟨rfl, ⟨J', _, H5.out, by rw [← HO.out]; exact hsl, HV.out.dn, HV.out.lf, by rw [← HO.out]; exact hVI5, hji, .inl HV.out.sV, .inr rfl, hne4⟩, fun k => T2 k ∨ T3 k ∨ k = V ∨ T5 k, ?_, fun k hk ht => ?_⟩
  · exact ((((C1.out.mono (fun _ _ h => h.elim)).trans (C2.out.mono (fun _ _ h => .inl h))).trans (C3.out.mono (fun _ _ h => .inr (.inl h)))).trans (C34.out.mono (fun _ _ h => .inr (.inr (.inl h))))).trans (C5.out.mono (fun _ _ h => .inr (.inr (.inr h))))
  · rcases ht with ht | ht | ht | ht
    · obtain ⟨g1, g2⟩ := T2'.out k (by omega) ht
      exact ⟨g1, fun hs => absurd hs g2⟩
    · obtain ⟨g1, g2⟩ := T3'.out k (by omega) ht
      exact ⟨g1, fun hs => absurd hs g2⟩
    · exact ⟨by rw [ht]; exact hVd.1, fun _ => ht⟩
    · obtain ⟨g1, g2⟩ := T5'.out k (by omega) ht
      exact ⟨g1, fun hs => absurd (.inl hs) g2⟩
end Go.Proofs.Ytjhkhdockiocgaa
