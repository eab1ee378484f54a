/- Contracts of package device: Read, Image. -/
import Derived.Test.YtjhkhdockiocgaaDevice3
namespace Go.Proofs.Ytjhkhdockiocgaa
open Go.RowKit Go.Cat

set_option maxRecDepth 100000 in
set_option maxHeartbeats 1000000 in
theorem image_any (w : World) (D : Nat) (lv wv : Value) (d : Dev) (h : DevIs w D lv wv d) :
    Calls Try.prog 43 #[.pointer (some ⟨D, 0, none⟩)] w fun e w' => ∃ v', e = .returned v' ∧ OB w' v' d.l.flatten ∧ Chg (fun _ => False) w w' ∧ Fresh w v' := by
  obtain ⟨T, hh⟩ := h.heap
  have hc0 := cell_of_heap hh 0
  simp only [List.getElem?_toArray, List.getElem?_cons_zero] at hc0
  have H := Lib.hid h
  clear hh h
  go_enter Try.func43, Try.ntmps43
  go_wp2_with (first | (go_at_call 88; refine (dev_bytes lv w d.l H.out.ownL.reads H.out.len H.out.many).mono ?_; rintro e w1 ⟨v', rfl, h1, h2, h3⟩))
  go_ret
  exact ⟨_, rfl, h1, h2, h3⟩

theorem eqn_sec (w : World) (a : Option Addr) (n c : Nat) : (binOp .eql 123 (.slice a n c) (.slice none 0 0)).run Try.prog w = .ok (.bool a.isNone) w := Lib.run_eql_slice_nil w _ 183 a n c 0 0 Try.underlying123
theorem slice_sec (w : World) (a : Option Addr) (N c lo k : Nat) (h2 : lo + k ≤ c) :
    (Instr.sliceAt 123 (.slice a N c) (some (.int .i64 lo)) (some (.int .i64 ((lo : Int) + k))) none).run Try.prog w = .ok (.slice (if c = lo then a else a.map (·.add (lo * 64))) k (c - lo)) w := by
  have h4 : (lo : Int) + k ≤ c := by omega
  have h5 : (0 : Int) ≤ (lo : Int) + k := by omega
  have h6 : ((lo : Int) + k).toNat = lo + k := by omega
  simp [go_sem, Instr.sliceAt, Instr.slice, Instr.sliceBounds, h4, h5, h6]

set_option maxRecDepth 100000 in
set_option maxHeartbeats 1000000 in
theorem clone_sec (v : Value) (w : World) (l : List (List UInt8)) (hv : Reads w 64 v l.length (l.flatMap bs)) (hl : l.length ≤ 8192) :
    Calls Try.prog 112 #[v] w fun e w' => ∃ v', e = .returned v' ∧ Owns w' 64 v' l.length (l.flatMap bs) ∧ Chg (fun _ => False) w w' ∧ Fresh w v' := by
  have eqn := eqn_sec
  rcases hv.2 with ⟨rfl, h0⟩ | ⟨g, o, cap, rfl, h1, h2, h3, h4⟩
  · have : l = [] := by simpa using h0
    subst this
    go_enter Try.func112, Try.ntmps112
    go_wp2
    go_ret
    exact ⟨_, rfl, Owns.nil _ _, Chg.refl _ _, by simp [Fresh, Value.ownBlock]⟩
  · clear h4 h1 h2 h3
    have hone : ∀ u ∈ l.flatMap bs, u.oneCell' = true := by rw [bs_flatten]; exact bs_one _
    have HV := Lib.hid hv; clear hv
    go_enter Try.func112, Try.ntmps112
    go_wp2_with (at_builtin; go_loud (refine wpList_appm rfl _ _ 123 rfl 183 (.agg (zeroRow 64)) 64 64 Try.underlying123 Try.infoSec (by simp [Value.cells, zeroRow, size_madeCells]) (.slice (some ⟨w.heap.size, 0, none⟩) 0 0) 0 [] rfl (Owns.empty w 183 64) (.slice (some ⟨g, o, none⟩) l.length cap) l.length (l.flatMap bs) rfl (HV.out.alloc _) hone (by simp only [maxLen]; omega) (by omega) ?_; intro v' w2 hob2 hch2 hin2 hnn2))
    go_ret
    rw [Nat.zero_add, List.nil_append] at hob2
    refine ⟨_, rfl, hob2, ((Chg.refl _ w).alloc _).trans' hch2 (fun k hk h => ?_), fun k hk => ?_⟩
    · simp [Value.ownBlock] at h; omega
    · rcases hin2 k hk with h | h <;> simp [Value.ownBlock] at h <;> omega

/-- What is read: the sectors as they are behind the writings that wait. -/
def readOf (l : List (List UInt8)) (ws : List (Nat × List UInt8)) (lo n : Nat) : List (List UInt8) := ((flushTo l ws).drop lo).take n
theorem readOf_step (l : List (List UInt8)) (ws : List (Nat × List UInt8)) (lo n k : Nat) (x : Nat × List UInt8) (h : ws[k]? = some x) :
    readOf l (ws.take (k + 1)) lo n = if lo ≤ x.1 ∧ x.1 < lo + n then (readOf l (ws.take k) lo n).set (x.1 - lo) x.2 else readOf l (ws.take k) lo n := by
  unfold readOf
  rw [flushTo_step _ _ _ _ h]
  apply List.ext_getElem?
  intro i
  split
  · rename_i h1
    simp only [List.getElem?_take, List.getElem?_drop, List.getElem?_set, List.length_take, List.length_drop]
    by_cases hi : i < n
    · by_cases he : x.1 = lo + i
      · have e2 : x.1 - lo = i := by omega
        simp only [hi, if_true, he, Nat.add_sub_cancel_left]
        by_cases hb : lo + i < (flushTo l (ws.take k)).length
        · rw [if_pos hb, if_pos (by omega)]
        · rw [if_neg hb, if_neg (by omega)]
      · have e2 : ¬ x.1 - lo = i := by omega
        simp only [hi, if_true, he, e2, if_false]
    · have e2 : ¬ x.1 - lo = i := by omega
      simp only [hi, if_false, e2]
  · rename_i h1
    simp only [List.getElem?_take, List.getElem?_drop, List.getElem?_set]
    by_cases hi : i < n
    · have he : ¬ x.1 = lo + i := by omega
      simp only [hi, if_true, he, if_false]
    · simp only [hi, if_false]

set_option maxRecDepth 100000 in
set_option maxHeartbeats 1000000 in
theorem read_ok (w : World) (D : Nat) (lv wv : Value) (d : Dev) (lo n : Nat) (h : DevIs w D lv wv d) (hd : d.down = false) (hr : lo + n ≤ d.l.length) (hm : d.waits.length ≤ 1000000) :
    Calls Try.prog 81 #[.pointer (some ⟨D, 0, none⟩), .int .i64 lo, .int .i64 n] w fun e w' => ∃ v', e = .returned (.tuple #[v', .int .i64 0]) ∧ OB w' v' (readOf d.l d.waits lo n).flatten ∧ Chg (fun _ => False) w w' ∧ Fresh w v' := by
  obtain ⟨T, hh⟩ := h.heap
  obtain ⟨la, lc, rfl⟩ := h.ownL.form
  obtain ⟨wa, wc, rfl⟩ := h.ownW.form
  obtain ⟨N, hn⟩ : ∃ n, n = d.l.length := ⟨_, rfl⟩
  obtain ⟨m, hmm⟩ : ∃ m, m = d.waits.length := ⟨_, rfl⟩
  have hmany := h.many
  have hlc := h.ownL.cap_ge.2
  rw [← hn] at hr hmany hlc
  have hoL := h.ownL
  rw [← hn] at hoL
  rw [← hn, ← hmm] at h hh
  rw [← hmm] at hm
  have hc0 := cell_of_heap hh 0
  have hc1 := cell_of_heap hh 1
  simp only [List.getElem?_toArray, List.getElem?_cons_zero, List.getElem?_cons_succ] at hc0 hc1
  have hpc := hoL.reads.piece (lo := lo) (hi := lo + n) (m := lc) (by omega) hr (by omega) (Nat.le_refl _)
  have hsl := slice_sec w la N lc lo n (by omega)
  have hrd : Reads w 64 (.slice (if lc = lo then la else la.map (·.add (lo * 64))) n (lc - lo)) ((d.l.drop lo).take n).length (((d.l.drop lo).take n).flatMap bs) := by
    have e1 : ((d.l.drop lo).take n).length = n := by simp; omega
    rw [e1]
    rw [show lo + n - lo = n by omega, rows_drop d.l (bs64 h.len) lo, rows_take (d.l.drop lo) (fun x hx => bs64 h.len x (List.mem_of_mem_drop hx)) n] at hpc
    exact hpc
  generalize hpv : (Value.slice (if lc = lo then la else la.map (·.add (lo * 64))) n (lc - lo)) = pv at hsl hrd
  have HB := Lib.hid hh
  have H := Lib.hid h
  have HD := Lib.hid hd
  have HN := Lib.hid hn
  have HM := Lib.hid hmm
  have HR := Lib.hid hrd
  have g1 : ¬ (lo : Int) < 0 := by omega
  have g2 : ¬ (n : Int) < 0 := by omega
  have g3 : ¬ (N : Int) < lo := by omega
  have g4 : ¬ (N : Int) - lo < n := by omega
  have g5 : (lo : Int) + n ≤ 8192 := by omega
  clear hh h hd hn hmm hpc hrd hpv hoL
  go_enter Try.func81, Try.ntmps81
  go_wp2_with (first | (go_at_call 50; refine (down_no w D _ _ d H.out).mono ?_; rintro e w1 ⟨rfl, rfl⟩; rw [HD.out]))
  refine (clone_sec pv w _ HR.out (by have : (List.take n (List.drop lo d.l)).length ≤ n := List.length_take_le _ _; omega)).mono ?_
  rintro e w2 ⟨cv, rfl, hcl, c2, f2⟩
  have hln : ((d.l.drop lo).take n).length = n := by rw [List.length_take, List.length_drop, ← HN.out]; omega
  rw [hln] at hcl
  obtain ⟨ca, cc, rfl⟩ := hcl.form
  have hc1' := c2.cell hc1 (fun h => h)
  have HCL := Lib.hid hcl
  have HLN := Lib.hid hln
  clear hc1 hc0 hsl hcl hln g1 g2 g3 g4
  go_wp2_with fail
  clear hc1'
  go_loopw [10, 56] (fun _ i wr => ∃ k : Nat, k ≤ m ∧ i = .int .i64 k ∧ Chg (fun _ => False) w wr ∧ Hid (Owns wr 64 (.slice ca n cc) n ((readOf d.l (d.waits.take k) lo n).flatMap bs))) (fun _ i _ => m - (intOf i).toNat)
  case atStart =>
    exact ⟨0, by omega, rfl, c2, HCL.out⟩
  case round =>
    obtain ⟨k, hk, rfl, hch, hol⟩ := hrel
    by_cases hlt : k < m
    · obtain ⟨x, hx⟩ : ∃ x, d.waits[k]? = some x := ⟨_, List.getElem?_eq_getElem (by rw [← HM.out]; exact hlt)⟩
      obtain ⟨hx64, hxn⟩ := H.out.wait x (List.mem_of_getElem? hx)
      rw [← HN.out] at hxn
      obtain ⟨hfl, hf64⟩ := flushTo_ok (d.waits.take k) d.l (fun y hy => (H.out.wait y (List.mem_of_mem_take hy)).1) H.out.len
      obtain ⟨wg, wo, rfl⟩ : ∃ g o, wa = some ⟨g, o, none⟩ := by
        rcases H.out.ownW.2 with ⟨hv, h0⟩ | ⟨g, o, c, hv, _⟩
        · rw [← HM.out] at h0; omega
        · simp only [Value.slice.injEq] at hv; exact ⟨g, o, hv.1⟩
      have hoW := H.out.ownW
      rw [← HM.out] at hoW
      have hel := Owns.elem hoW (fun y hy => wcells_length (H.out.wait y hy).1) k x hx
      have hsz : w.heap.size ≤ wr.heap.size := hch.size
      have hld : (Instr.loadAt 185 (.pointer (some ⟨wg, wo + k * 65, none⟩))).run Try.prog wr = .ok (.agg (wcells x).toArray) wr :=
        run_loadAt_agg wr _ _ _ _ (wcells x) Try.underlying185 rfl (by rw [size_wri, wcells_length hx64]) (fun j u hj => hch.cell (hel.1 j u hj) (fun h => h))
      have hsc := store_wri (wcells x) (wcells_length hx64) (wcells_one x) wr
      obtain ⟨c1, hc1e⟩ : ∃ c, c = wcells x := ⟨_, rfl⟩
      rw [← hc1e] at hld hsc
      have hz0 : c1[0]? = some (.int .i64 x.1) := by rw [hc1e]; rfl
      obtain ⟨W1, hW1⟩ : ∃ W, W = wr.alloc (.cells c1.toArray 185) := ⟨_, rfl⟩
      have hN1 : W1.heap[wr.heap.size]? = some (.cells c1.toArray 185 (0, 0)) := by rw [hW1]; exact heap_at_new _ _ _ rfl
      have k1 : Chg (fun _ => False) w W1 := by rw [hW1]; exact hch.alloc _
      have q1 : W1.cell? ⟨wr.heap.size, 0, none⟩ = some (.int .i64 x.1) := by rw [cell_of_heap hN1]; simpa using hz0
      have q2 : (Instr.loadAt 183 (.pointer (some ⟨wr.heap.size, 1, none⟩))).run Try.prog W1 = .ok (.agg (bs x.2).toArray) W1 :=
        run_loadAt_agg W1 _ _ _ _ (bs x.2) Try.underlying183 rfl (by rw [size_sec, bs_length, hx64]) (fun j u hj => by rw [cell_of_heap hN1, hc1e, Nat.add_comm]; simpa [wcells] using hj)
      have ho1 : Owns W1 64 (.slice ca n cc) n ((readOf d.l (d.waits.take k) lo n).flatMap bs) := by rw [hW1]; exact Owns.alloc hol.out _
      have hr64 : ∀ y ∈ readOf d.l (d.waits.take k) lo n, y.length = 64 := fun y hy => hf64 y (List.mem_of_mem_drop (List.mem_of_mem_take hy))
      have hrn : (readOf d.l (d.waits.take k) lo n).length = n := by unfold readOf; rw [List.length_take, List.length_drop, hfl, ← HN.out]; omega
      have hstep := readOf_step d.l d.waits lo n k x hx
      rw [← hW1] at hsc
      have HEL := Lib.hid hel
      have HX := Lib.hid hx
      have HX64 := Lib.hid hx64
      have HC1 := Lib.hid hc1e
      have HSTEP := Lib.hid hstep
      have HO1 := Lib.hid ho1
      clear hel hx hx64 hf64 hfl hc1e hoW hol hW1 hN1 hz0 hstep ho1
      by_cases hin : lo ≤ x.1 ∧ x.1 < lo + n
      · obtain ⟨old, hold⟩ : ∃ y, (readOf d.l (d.waits.take k) lo n)[x.1 - lo]? = some y := ⟨_, List.getElem?_eq_getElem (by rw [hrn]; omega)⟩
        obtain ⟨g, o, rfl⟩ : ∃ g o, ca = some ⟨g, o, none⟩ := by
          rcases HO1.out.2 with ⟨hv, h0⟩ | ⟨g, o, c, hv, _⟩
          · omega
          · simp only [Value.slice.injEq] at hv; exact ⟨g, o, hv.1⟩
        have hg0 : w.heap.size ≤ g := f2 g rfl
        have helm := Owns.elem HO1.out (bs64 hr64) (x.1 - lo) old hold
        have hst : (Instr.storeAt 183 (.pointer (some ⟨g, o + (x.1 - lo) * 64, none⟩)) (.agg (bs x.2).toArray)).run Try.prog W1 = .ok () (W1.setCells g (o + (x.1 - lo) * 64) (bs x.2)) :=
          run_storeAt_agg W1 _ _ _ (bs x.2) (by rw [size_sec, bs_length, HX64.out]) (fun j hj => helm.2.1 j (by rw [bs_length, HX64.out] at hj; exact hj)) (fun j hj => helm.2.2 j (by rw [bs_length, HX64.out] at hj; exact hj)) (bs_one _)
        have hput := Owns.put HO1.out (bs64 hr64) hrn (x.1 - lo) 0 old x.2 (bs x.2) hold (by rw [bs_length, HX64.out]; omega) (by rw [bs_length, HX64.out]; simp [hr64 old (List.mem_of_getElem? hold)])
        have hput' : Hid (Owns (W1.setCells g (o + (x.1 - lo) * 64) (bs x.2)) 64 (.slice (some ⟨g, o, none⟩) n cc) n ((readOf d.l (d.waits.take (k + 1)) lo n).flatMap bs)) := by
          rw [HSTEP.out, if_pos hin]; exact hput
        have hend : Chg (fun _ => False) w (W1.setCells g (o + (x.1 - lo) * 64) (bs x.2)) := k1.new (Chg.setCells W1 g _ _) (fun b hb => by subst hb; exact hg0)
        have i1 : (lo : Int) ≤ x.1 := by omega
        have i2 : (x.1 : Int) < (lo : Int) + n := by omega
        have i3 : ((x.1 : Int) - lo).toNat = x.1 - lo := by omega
        have i4 : (0 : Int) ≤ (x.1 : Int) - lo := by omega
        have i5 : (x.1 : Int) - lo < n := by omega
        clear helm hput hrn hr64 hold hin
        go_wp2_with (first | refine wpList_load rfl 185 _ rfl _ _ rfl hld ?_ | refine wpList_store rfl 185 _ _ rfl _ _ _ rfl rfl hsc ?_ | refine wpList_load rfl 183 _ rfl _ _ rfl q2 ?_ | refine wpList_store rfl 183 _ _ rfl _ _ _ rfl rfl hst ?_)
        exact ⟨⟨k + 1, by omega, rfl, hend, hput'⟩, by simp only [intOf]; omega⟩
      · have hput' : Hid (Owns W1 64 (.slice ca n cc) n ((readOf d.l (d.waits.take (k + 1)) lo n).flatMap bs)) := by
          rw [HSTEP.out, if_neg hin]; exact HO1.out
        rcases Nat.lt_or_ge x.1 lo with hl | hl
        · have i1 : ¬ (lo : Int) ≤ x.1 := by omega
          clear hrn hr64 hin
          go_wp2_with (first | refine wpList_load rfl 185 _ rfl _ _ rfl hld ?_ | refine wpList_store rfl 185 _ _ rfl _ _ _ rfl rfl hsc ?_)
          exact ⟨⟨k + 1, by omega, rfl, k1, hput'⟩, by simp only [intOf]; omega⟩
        · have i1 : (lo : Int) ≤ x.1 := by omega
          have i2 : ¬ (x.1 : Int) < (lo : Int) + n := by omega
          clear hrn hr64 hin
          go_wp2_with (first | refine wpList_load rfl 185 _ rfl _ _ rfl hld ?_ | refine wpList_store rfl 185 _ _ rfl _ _ _ rfl rfl hsc ?_)
          exact ⟨⟨k + 1, by omega, rfl, k1, hput'⟩, by simp only [intOf]; omega⟩
    · obtain rfl : k = m := by omega
      have hfin := hol.out
      obtain ⟨hfl, hf64⟩ := flushTo_ok d.waits d.l (fun y hy => (H.out.wait y hy).1) H.out.len
      rw [HM.out, List.take_length] at hfin
      have hrn : (readOf d.l d.waits lo n).length = n := by unfold readOf; rw [List.length_take, List.length_drop, hfl, ← HN.out]; omega
      have hr64 : ∀ y ∈ readOf d.l d.waits lo n, y.length = 64 := fun y hy => hf64 y (List.mem_of_mem_drop (List.mem_of_mem_take hy))
      have HF : Hid (Reads wr 64 (.slice ca n cc) (readOf d.l d.waits lo n).length ((readOf d.l d.waits lo n).flatMap bs)) := by rw [hrn]; exact hfin.reads
      have HRN := Lib.hid hrn
      clear hfin hfl hf64 hrn hol
      go_wp2_with (first | (go_at_call 88; refine (dev_bytes _ wr _ HF.out hr64 (by rw [HRN.out]; omega)).mono ?_; rintro e w3 ⟨v', rfl, h1, h2, h3⟩))
      go_ret2
      exact ⟨_, rfl, h1, hch.trans h2, fun b hb => by have := h3 b hb; have := hch.size; omega⟩
end Go.Proofs.Ytjhkhdockiocgaa
