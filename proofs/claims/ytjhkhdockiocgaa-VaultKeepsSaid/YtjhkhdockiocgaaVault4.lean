/- Contracts of package vault: Commit, Seal (law level). -/
import Derived.Test.YtjhkhdockiocgaaVaultPure
namespace Go.Proofs.Ytjhkhdockiocgaa
open Go.RowKit Go.Cat

/-- A vault as it lies in memory. -/
structure VIs (w : World) (V D half t J : Nat) : Prop where
  heap : ∃ T, w.heap[V]? = some (.cells #[.pointer (some ⟨D, 0, none⟩), .int .i64 half, .int .u32 t, .pointer (some ⟨J, 0, none⟩)] T (0, 0))
theorem VIs.at {w : World} {V D half t J : Nat} (h : VIs w V D half t J) (k : Nat) (v : Value) (hk : [Value.pointer (some ⟨D, 0, none⟩), .int .i64 half, .int .u32 t, .pointer (some ⟨J, 0, none⟩)][k]? = some v) : w.cell? ⟨V, k, none⟩ = some v := by
  obtain ⟨T, hb⟩ := h.heap
  rw [cell_of_heap hb]
  simpa using hk
theorem VIs.kept {w w' : World} {V D half t J : Nat} (h : VIs w V D half t J) {S : Nat → Prop} (c : Chg S w w') (hs : ¬ S V) : VIs w' V D half t J := by
  obtain ⟨T, hb⟩ := h.heap
  exact ⟨T, c.heap hb hs⟩
/-- A device with a vault on it, all made since w0. -/
structure VU (w0 w : World) (D V J q half t : Nat) (done : List (List UInt8)) (S : Nat → Prop) (d : Dev) : Prop where
  dj : DJ w0 w D d S
  inv : VInv d q half t done
  dn : d.down = false
  lf : d.left = 0
  vis : VIs w V D half t J
  ji : JIs w J D (half * q) q t (total done)
  sV : S V
  sJ : S J
  ne : V ≠ J

set_option maxRecDepth 100000 in
set_option maxHeartbeats 1000000 in
theorem vcommit (w0 w : World) (D V J q half t : Nat) (done : List (List UInt8)) (S : Nat → Prop) (d : Dev) (v : Value) (l : List UInt8) (h : VU w0 w D V J q half t done S d) (hv : RBz w v l) (hl : l.length ≤ 600) (hfit : total done + costN l.length ≤ q) (ht : t < 4294967296) (h0 : t ≠ 0) :
    Calls Try.prog 41 #[.pointer (some ⟨V, 0, none⟩), v] w fun e w' => e = .returned (.int .i64 0) ∧ (∃ d', VU w0 w' D V J q half t (done ++ [l]) S d') ∧ ∃ T, Chg T w w' ∧ ∀ k, k < w.heap.size → T k → w0.heap.size ≤ k ∧ (S k → k = J) := by
  obtain ⟨va, vc, rfl⟩ := hv.form
  have q3 := h.vis.at 3 _ rfl
  have hj := h.inv.j
  have CM := Lib.hid (dj_commit w0 w J D (half * q) q t (total done) d S _ l h.dj h.ji h.sJ hv h.dn h.lf hj.len hl hfit ht h0 (by rw [h.inv.waits]; simp))
  have HV := Lib.hid h
  have HF := Lib.hid hfit
  clear h hv hj hfit
  go_enter Try.func41, Try.ntmps41
  go_wp2_with fail
  refine CM.out.mono ?_
  rintro e w1 ⟨rfl, h1, j1, T, c1, t1⟩
  have H1 := Lib.hid h1
  have J1 := Lib.hid j1
  have C1 := Lib.hid c1
  have T1 := Lib.hid t1
  clear h1 j1 c1 t1
  go_wp2_with fail
  go_ret
  have h := HV.out
  have hc := h.inv.j.commit l (by simp only [total]; exact HF.out)
  simp only [List.append_nil, total, Nat.add_zero] at hc
  have hle := h.inv.j.len
  have hot : ∀ i, i < q → (flushTo d.l (d.waits ++ wat (half * q + total done) (recSecs t (total done) l)))[(1 - half) * q + i]? = some (zb 64) := fun i hi => by
    rw [h.inv.waits, List.nil_append, (flushTo_wat _ d.l _ (by rw [recSecs_length]; have := HF.out; omega)).2, if_neg (by
      rw [recSecs_length]
      have := HF.out
      rcases half_cases h.inv.h1 with hh | hh <;> subst hh <;> simp <;> omega)]
    exact h.inv.other i hi
  have hlen : (flushTo d.l (d.waits ++ wat (half * q + total done) (recSecs t (total done) l))).length = 2 * q := by
    rw [h.inv.waits, List.nil_append, (flushTo_wat _ d.l _ (by rw [recSecs_length]; have := HF.out; omega)).1, h.inv.len]
  refine ⟨rfl, ⟨_, H1.out, ⟨hc, hot, hlen, h.inv.h1⟩, h.dn, h.lf, ?_, by rw [total_snoc]; exact J1.out, h.sV, h.sJ, h.ne⟩, T, C1.out, T1.out⟩
  exact h.vis.kept C1.out (fun ht => h.ne ((T1.out V (by obtain ⟨_, hb⟩ := h.vis.heap; exact (Array.getElem?_eq_some_iff.1 hb).1) ht).2 h.sV))
set_option maxRecDepth 100000 in
set_option maxHeartbeats 1000000 in
theorem vcommit_full (w0 w : World) (D V J q half t : Nat) (done : List (List UInt8)) (S : Nat → Prop) (d : Dev) (a : Option Addr) (m c : Nat) (h : VU w0 w D V J q half t done S d) (hm : m ≤ 1000000) (hfull : q < total done + costN m) :
    Calls Try.prog 41 #[.pointer (some ⟨V, 0, none⟩), .slice a m c] w fun e w' => e = .returned (.int .i64 6) ∧ Chg (fun _ => False) w w' := by
  have q3 := h.vis.at 3 _ rfl
  have hf := h.inv.j.fits
  have hn := h.inv.j.nn
  have CM := Lib.hid (commitj_full w J D (half * q) q t (total done) a m c h.ji hn (by simp only [total] at hf; omega) hm hfull)
  clear h hfull hf
  go_enter Try.func41, Try.ntmps41
  go_wp2_with fail
  refine CM.out.mono ?_
  rintro e w1 ⟨rfl, c1⟩
  have C1 := Lib.hid c1
  clear c1
  go_wp2_with fail
  go_ret
  exact ⟨rfl, C1.out⟩
end Go.Proofs.Ytjhkhdockiocgaa
