/- The contract of vault.Open where nothing is on its way (law level). -/
import Derived.Test.YtjhkhdockiocgaaVault6
import Derived.Test.YtjhkhdockiocgaaRows2
namespace Go.Proofs.Ytjhkhdockiocgaa
open Go.RowKit Go.Cat

theorem VU.same {w0 w w' : World} {D V J q half t : Nat} {done : List (List UInt8)} {S : Nat → Prop} {d : Dev} (h : VU w0 w D V J q half t done S d) (c : Chg (fun _ => False) w w') : VU w0 w' D V J q half t done S d :=
  ⟨h.dj.same c, h.inv, h.dn, h.lf, h.vis.kept c (fun h => h), h.ji.kept c (fun h => h), h.sV, h.sJ, h.ne⟩
theorem vu_this {w0 w : World} {D V J q half t : Nat} {done : List (List UInt8)} {S : Nat → Prop} {d : Dev} (h : VU w0 w D V J q half t done S d) : JU w0 w D (2 * q) (half * q) q t (fun o => o = zb 64) done [] S := ⟨d, h.dj, h.inv.j, h.dn, h.lf, h.inv.len⟩
theorem vu_other {w0 w : World} {D V J q half t : Nat} {done : List (List UInt8)} {S : Nat → Prop} {d : Dev} (h : VU w0 w D V J q half t done S d) : JU w0 w D (2 * q) ((1 - half) * q) q 1 (fun o => ¬ sound o) [] [] S :=
  ⟨d, h.dj, JInv.fresh (by rw [h.inv.len]; rcases half_cases h.inv.h1 with hh | hh <;> subst hh <;> simp <;> omega) h.inv.j.l64 h.inv.other h.inv.waits (by omega) (by omega) h.inv.j.nn, h.dn, h.lf, h.inv.len⟩
theorem zb_unsound : ∀ o, o = zb 64 → ¬ sound o := fun o e h => h.1 (fun b hb => by rw [e] at hb; exact (List.mem_replicate.1 hb).2)
/-- Nothing was written: the turn that is told is 0. -/
theorem ju_read00 {w0 w : World} {D N lo n t : Nat} {Old : List UInt8 → Prop} {S : Nat → Prop} (h : JU w0 w D N lo n t Old [] [] S) (ht : t < 4294967296) (h0 : t ≠ 0) (hpos : 1 ≤ n) (hO : ∀ o, Old o → ¬ sound o) :
    Calls Try.prog 30 #[.pointer (some ⟨D, 0, none⟩), .int .i64 lo, .int .i64 n] w fun e w' => ∃ (v' : Value) (F : Nat → Prop), e = .returned (.tuple #[v', .int .u32 0, .int .i64 0]) ∧ OutsF w' F v' [] ∧ (∀ q, F q → w.heap.size ≤ q) ∧ JU w0 w' D N lo n t Old [] [] S ∧ Chg (fun _ => False) w w' := by
  obtain ⟨d, h3, h4, h5, h6, h7⟩ := h
  have hr := h4.read (out := []) ht h0 hpos (.inr hO)
  have hw : d.waits = [] := by rw [h4.waits]; rfl
  have ht0 : turnB ((readOf d.l d.waits lo n).headD []) = 0 := by
    obtain ⟨o, h8, _, h9⟩ := h4.old 0 (by simp [total]) (by omega)
    rw [hw, headD_at (x := o) (by rw [readOf_at, if_pos (by omega)]; exact h8)]
    exact if_neg (hO o h9)
  refine (dj_read w0 w D lo n d S h3 h5 hpos h4.len (by have := ju_wl h4; omega) _ rfl hr.1 hr.2.1).mono ?_
  rintro e w' ⟨v', out, F, rfl, g1, g2, g3, g4, c⟩
  obtain ⟨e1, _⟩ := (h4.read (out := out) ht h0 hpos (.inr hO)).2.2 g3
  rw [show ([] : List (List UInt8)) ++ [] = [] from rfl] at e1
  subst e1
  rw [ht0]
  exact ⟨v', F, rfl, g1, g2, ⟨d, g4, h4, h5, h6, h7⟩, c⟩
/-- A half is read. -/
theorem vread {w0 w : World} {D V J q half t : Nat} {done : List (List UInt8)} {S : Nat → Prop} {d : Dev} (h : VU w0 w D V J q half t done S d) (ht : t < 4294967296) (h0 : t ≠ 0) (hq : 1 ≤ q) (hne : done ≠ []) (k : Nat) (hk : k ≤ 1) :
    Calls Try.prog 30 #[.pointer (some ⟨D, 0, none⟩), .int .i64 ((k : Int) * q), .int .i64 q] w fun e w' => ∃ (v' : Value) (F : Nat → Prop) (l : List (List UInt8)) (t' : Nat), e = .returned (.tuple #[v', .int .u32 t', .int .i64 0]) ∧ ((k = half ∧ l = done ∧ t' = t) ∨ (k ≠ half ∧ l = [] ∧ t' = 0)) ∧ OutsF w' F v' l ∧ (∀ a, F a → w.heap.size ≤ a) ∧ Chg (fun _ => False) w w' := by
  by_cases hkh : k = half
  · have := ju_read (vu_this h) ht h0 hq (.inr zb_unsound)
    rw [← hkh, show ((k * q : Nat) : Int) = (k : Int) * q by simp] at this
    refine this.mono ?_
    rintro e w' ⟨v', F, t', rfl, g1, g2, g3, _, c⟩
    rw [List.append_nil] at g1 g3
    exact ⟨v', F, done, t', rfl, .inl ⟨hkh, rfl, g3 hne⟩, g1, g2, c⟩
  · have := ju_read00 (vu_other h) (by omega) (by omega) hq (fun _ h => h)
    have hk2 : 1 - half = k := by have := h.inv.h1; omega
    rw [hk2, show ((k * q : Nat) : Int) = (k : Int) * q by simp] at this
    refine this.mono ?_
    rintro e w' ⟨v', F, rfl, g1, g2, _, c⟩
    exact ⟨v', F, [], 0, rfl, .inr ⟨hkh, rfl, rfl⟩, g1, g2, c⟩
theorem results_tmp4 {fn : Func} {t u v x : Tmp} (h : fn.results = #[.tmp t, .tmp u, .tmp v, .tmp x]) (tmps : Array Value) (P : Program) (w : World) :
    (results fn tmps).run P w = .ok (.tuple #[tmps.getD t undef, tmps.getD u undef, tmps.getD v undef, tmps.getD x undef]) w := by
  simp [results, h]
/-- What the loop of Open holds. -/
def OpenAt (wr : World) (B D half t k : Nat) (done : List (List UInt8)) (av : Value) : Prop :=
  ∃ bh bt T, wr.heap[B]? = some (.cells #[.pointer (some ⟨D, 0, none⟩), .int .i64 (bh : Nat), .int .u32 (bt : Nat), .pointer none] T (0, 0)) ∧ ((k ≤ half ∧ bh = 0 ∧ bt = 0 ∧ av = .slice none 0 0) ∨ (half < k ∧ bh = half ∧ bt = t ∧ ∃ F, OutsF wr F av done ∧ ∀ a, F a → B < a))
set_option maxRecDepth 100000 in
set_option maxHeartbeats 4000000 in
theorem vopen (w0 w : World) (D V J q half t : Nat) (done : List (List UInt8)) (S : Nat → Prop) (d : Dev) (h : VU w0 w D V J q half t done S d) (ht : t < 4294967296) (h0 : t ≠ 0) (hq : 4 ≤ q) (hq2 : q ≤ 4096) (hne : done ≠ []) :
    Calls Try.prog 47 #[.pointer (some ⟨D, 0, none⟩)] w fun e w' => ∃ B iv cv, e = .returned (.tuple #[.pointer (some ⟨B, 0, none⟩), iv, cv, .int .i64 0]) ∧ (∃ r rs, done = r :: rs ∧ RBz w' iv r ∧ RBs w' cv rs) ∧ Chg (fun _ => False) w w' := by
  have hN := h.inv.len
  have VC := Lib.hid (dj_vcheck w0 w D d S h.dj h.dn (by omega))
  have SZ : Hid (∀ w', Chg (fun _ => False) w w' → Calls Try.prog 84 #[.pointer (some ⟨D, 0, none⟩)] w' fun e w'' => e = .returned (.int .i64 q) ∧ w' = w'') := fun w' c => by
    have := dj_size w0 w' D d S (h.same c).dj
    rw [hN, show 2 * q / 2 = q by omega] at this
    exact this
  have RD : Hid (∀ w', Chg (fun _ => False) w w' → ∀ k, k ≤ 1 → _) := fun w' c k hk => vread (h.same c) ht h0 (by omega) hne k hk
  have hh := h.inv.h1
  have HH := Lib.hid h
  clear h hN
  go_enter Try.func47, Try.ntmps47
  go_wp2_with (first | (go_at_call 83; refine VC.out.mono ?_; rintro e w' ⟨rfl, rfl⟩))
  have ca : Chg (fun _ => False) w (w.alloc (.cells #[.pointer (some ⟨D, 0, none⟩), .int .i64 0, .int .u32 0, .pointer none] 152)) := (Chg.refl _ w).alloc _
  have hB0 := heap_at_new w (.cells #[.pointer (some ⟨D, 0, none⟩), .int .i64 0, .int .u32 0, .pointer none] 152) _ rfl
  have CA := Lib.hid ca
  have HB0 := Lib.hid hB0
  clear ca hB0 VC
  go_loopw [8, 21] (fun av i wr => ∃ k : Nat, k ≤ 2 ∧ i = .int .i64 k ∧ Hid (OpenAt wr w.heap.size D half t k done av) ∧ Hid (Chg (fun _ => False) w wr)) (fun _ i _ => 2 - (intOf i).toNat)
  case atStart => exact ⟨0, by omega, rfl, ⟨0, 0, _, HB0.out, .inl ⟨by omega, rfl, rfl, rfl⟩⟩, CA.out⟩
  case round =>
    obtain ⟨k, hk, rfl, hO, hC⟩ := hrel
    obtain ⟨bh, bt, TB, hb, hcase⟩ := hO.out
    have HB := Lib.hid hb
    have HCS := Lib.hid hcase
    have hBl := (Array.getElem?_eq_some_iff.1 hb).1
    clear hb hcase
    by_cases hlt : k < 2
    · have hkI : (k : Int) < 2 := by omega
      have S1 := Lib.hid (SZ.out wr hC.out)
      have R1 := Lib.hid (RD.out wr hC.out k (by omega))
      have hkq : k * q ≤ 1 * q := Nat.mul_le_mul_right _ (by omega)
      have hb1 : (0 : Int) ≤ (k : Int) * q := by rw [← Int.natCast_mul]; omega
      have hb2 : (k : Int) * q ≤ 4096 := by rw [← Int.natCast_mul]; omega
      have hw : wrap64 ((k : Int) * q) = (k : Int) * q := by unfold wrap64; omega
      clear hkq
      go_wp2_with (first | (go_at_call 84; refine S1.out.mono ?_; rintro e w' ⟨rfl, rfl⟩))
      refine R1.out.mono ?_
      rintro e w1 ⟨v', F, l, t', rfl, hc, ho, hF, c1⟩
      have HB1 := Lib.hid (c1.heap HB.out (fun h => h))
      have b1 : w1.cell? ⟨w.heap.size, 1, none⟩ = some (.int .i64 bh) := by rw [cell_of_heap HB1.out]; rfl
      have b2 : w1.cell? ⟨w.heap.size, 2, none⟩ = some (.int .u32 bt) := by rw [cell_of_heap HB1.out]; rfl
      have f1 : w1.frozen? ⟨w.heap.size, 1, none⟩ = false := frozen_of_heap HB1.out 1
      have f2 : w1.frozen? ⟨w.heap.size, 2, none⟩ = false := frozen_of_heap HB1.out 2
      have C1 := Lib.hid c1
      have HF := Lib.hid hF
      have HOU := Lib.hid ho
      clear c1 hF
      rcases hc with ⟨rfl, rfl, rfl⟩ | ⟨hkh, rfl, rfl⟩
      · obtain ⟨rfl, rfl⟩ : bh = 0 ∧ bt = 0 := by
          rcases HCS.out with ⟨_, h1, h2, _⟩ | ⟨h1, _⟩
          · exact ⟨h1, h2⟩
          · omega
        obtain ⟨va, vc, rfl⟩ := ho.form
        have hl0 : (0 : Int) < l.length := by have := List.length_pos_iff.2 hne; omega
        have ht0 : (0 : Int) < t' := by omega
        clear ho
        go_wp2_with fail
        have cS : Chg (fun a => a = w.heap.size) w1 ((w1.setCell ⟨w.heap.size, 1, none⟩ (.int .i64 k)).setCell ⟨w.heap.size, 2, none⟩ (.int .u32 t')) := Chg.setCell (S := fun a => a = w.heap.size) (Chg.setCell (S := fun a => a = w.heap.size) (Chg.refl _ w1) (p := ⟨w.heap.size, 1, none⟩) (fun _ => rfl) _) (p := ⟨w.heap.size, 2, none⟩) (fun _ => rfl) _
        have hb' := Cat.heap_setCell_same (Cat.heap_setCell_same HB1.out 1 (.int .i64 k)) 2 (.int .u32 t')
        exact ⟨⟨k + 1, by omega, rfl, ⟨k, t', TB, hb', .inr ⟨by omega, rfl, rfl, F, HOU.out.kept cS (fun a ha e => by have := HF.out a ha; have e : a = w.heap.size := e; omega), fun a ha => by have := HF.out a ha; omega⟩⟩, (hC.out.trans C1.out).new cS (fun a ha => by have e : a = w.heap.size := ha; omega)⟩, by simp only [intOf]; omega⟩
      · obtain ⟨va, vc, rfl⟩ := ho.form
        clear ho
        go_wp2_with fail
        refine ⟨⟨k + 1, by omega, rfl, ⟨bh, bt, TB, HB1.out, ?_⟩, hC.out.trans C1.out⟩, by simp only [intOf]; omega⟩
        rcases HCS.out with ⟨h1, h2, h3, h4⟩ | ⟨h1, h2, h3, F2, h4, h5⟩
        · exact .inl ⟨by omega, h2, h3, h4⟩
        · exact .inr ⟨by omega, h2, h3, F2, h4.kept C1.out (fun _ _ h => h), h5⟩
    · obtain rfl : k = 2 := by omega
      obtain ⟨F, hav⟩ : ∃ F, OutsF wr F u8 done := by
        rcases HCS.out with ⟨h1, _⟩ | ⟨_, _, _, F, h4, _⟩
        · omega
        · exact ⟨F, h4⟩
      obtain ⟨r, rs, hdr⟩ := List.exists_cons_of_ne_nil hne
      obtain ⟨va, vc, rfl⟩ := hav.form
      have hrb := hav.rbs
      have hdl : done.length = rs.length + 1 := by rw [hdr]; rfl
      obtain ⟨g, o, uu, uc, rfl, q1, z1⟩ := hrb.at_ 0 r (by rw [hdr]; rfl)
      have hdp := hrb.drop (j := 1) (by omega)
      generalize done.length = n at *
      have hsl : ∀ w, (Instr.sliceAt 43 (.slice (some ⟨g, o, none⟩) n vc) (some (.int .i64 1)) none none).run Try.prog w = .ok (.slice (if vc = 1 then (some ⟨g, o, none⟩ : Option Addr) else (some ⟨g, o, none⟩ : Option Addr).map (·.add (1 * 1))) (n - 1) (vc - 1)) w := fun w => slice_lo43 w (some ⟨g, o, none⟩) n vc 1 (by omega)
      rw [Nat.add_zero] at q1
      have q2 : wr.cell? ⟨g, o + 0 * 1, none⟩ = some (.slice uu r.length uc) := by rw [Nat.zero_mul, Nat.add_zero]; exact q1
      generalize hpv : (Value.slice (if vc = 1 then (some ⟨g, o, none⟩ : Option Addr) else (some ⟨g, o, none⟩ : Option Addr).map (·.add (1 * 1))) (n - 1) (vc - 1)) = pv at hsl
      rw [hpv] at hdp
      have hn0 : ((n : Int) == 0) = false := by simp; omega
      have hn1 : (0 : Int) < n := by omega
      have Z1 := Lib.hid z1
      have HDP := Lib.hid hdp
      have HDR := Lib.hid hdr
      clear hpv hdp hrb hav z1 hdr hdl
      go_wp2_with fail
      go_quiet (fail)
      have cq : Chg (fun _ => False) wr (wr.drewN nq) := (Chg.refl _ wr).drewN nq
      have hrs : RBs (wr.drewN nq) pv rs := by
        have h := HDP.out.same cq
        rw [HDR.out, List.drop_succ_cons, List.drop_zero] at h
        exact h
      go_wp2_with fail
      exact bodyPost_ret (results_tmp4 rfl _ _ _) rfl ⟨w.heap.size, _, pv, rfl, ⟨r, rs, HDR.out, Z1.out.same cq, hrs⟩, hC.out.trans cq⟩
end Go.Proofs.Ytjhkhdockiocgaa
