/- Stock.again, Purge. -/
import Derived.Test.YtmnnahkaenikkaaStk8
namespace Go.Proofs.Ytmnnahkaenikkaa
open Go.RowKit Go.Cat
/-- What a window's aggregate comes to, anew. -/
def St.anew (s : St) (t : Nat) (a b : Int) (x : Ag) : Option Ag := if covF t a ≤ x.tk ∧ x.tk < covT t b then s.of t x.tk (x.tk + wid t) else some x
def St.againL (s : St) (t : Nat) (a b : Int) : List Ag := (s.agg t).filterMap (s.anew t a b)
theorem of_tk {s : St} {t : Nat} {x y : Int} {a : Ag} (h : s.of t x y = some a) : a.tk = x := by
  unfold St.of at h
  split at h
  · unfold ofW at h
    split at h
    · cases h
    · cases h; exact ofP_tk _ _
  · unfold joinA at h
    split at h
    · cases h; rfl
    · cases h
theorem anew_tk {s : St} {t : Nat} {a b : Int} {x y : Ag} (h : s.anew t a b x = some y) : y.tk = x.tk := by
  unfold St.anew at h
  split at h
  · exact of_tk h
  · cases h; rfl
theorem again_ok {s : St} (h : Inv s) (t : Nat) (ht : t = 1 ∨ t = 2) (a b : Int) : Inv (s.setA t (s.againL t a b)) := by
  obtain ⟨h1, h2, h3, h4⟩ := h.mkOk t ht
  have e : s.setA t (s.againL t a b) = s.tier t (s.againL t a b) (s.mk_ t) := by rcases ht with rfl | rfl <;> rfl
  rw [e]
  refine h.tier t ht (fun y hy => ?_) (Nat.le_trans (List.length_filterMap_le _ _) h2) ⟨h3, h4⟩
  obtain ⟨x, hx, hy⟩ := List.mem_filterMap.1 hy
  rw [anew_tk hy]
  exact h1 x hx
set_option maxRecDepth 100000 in
set_option maxHeartbeats 4000000 in
theorem again1_c (w : World) (F : Nat → Prop) (R : Nat) (s : St) (a b : Int) (h : StIs w F R s) (h0 : 0 ≤ a) (hab : a < b) (hb : b ≤ 1099511627777) :
    Calls Try.prog 59 #[.pointer (some ⟨R, 0, none⟩), .int .i64 1, .agg #[.int .i64 a, .int .i64 b]] w fun e w' => e = .returned (.tuple #[]) ∧ StIs w' (ext F w w') R (s.setA 1 (s.againL 1 a b)) ∧ Chg F w w' := by
  have HIS := Lib.hid h
  obtain ⟨R1, vr, vm, vl, hA⟩ := h
  obtain ⟨W, hW⟩ : ∃ W, W = w.alloc (.cells #[.int .i64 a, .int .i64 b] 24) := ⟨_, rfl⟩
  have cW : Chg (fun _ => False) w W := by rw [hW]; exact (Chg.refl _ w).alloc _
  have CC := Lib.hid (cover_c W 1 a b (by omega) (by omega) h0 hab hb)
  have hq := (hA.mark 1 (by omega)).2.2.1
  have hown := (hA.own 1 (by omega)).1
  replace hq : w.cell? ⟨R, 2, none⟩ = some vm := hq
  replace hown : OAgs w vm (s.agg 1) := hown
  obtain ⟨i1, i2, i3, i4⟩ := hA.inv.mkOk 1 (by omega)
  obtain ⟨L, hL⟩ : ∃ L, L = s.agg 1 := ⟨_, rfl⟩
  rw [← hL] at hown i1 i2
  obtain ⟨va, vc, hv⟩ := Owns.form hown
  obtain ⟨n, hn⟩ : ∃ n, n = L.length := ⟨_, rfl⟩
  have H : Hid (Ags w (.slice va n vc) L) := by rw [hn]; rw [hv] at hown; exact Owns.reads hown
  rw [hv, ← hn] at hq
  rw [← hn] at i2
  have HN := Lib.hid hn
  have HL := Lib.hid hL
  have hok : Hid (∀ (k : Nat) (p : Ag), L[k]? = some p → 0 ≤ p.tk ∧ p.tk ≤ 4611686018427387904 ∧ p.tk % wid 1 = 0) := fun k p hp => agokT i1 i4 hp
  have HA := Lib.hid hA
  have CW := Lib.hid cW
  have HW := Lib.hid hW
  have OC := Lib.hid (fun W x h0 h1 => of_c W 1 x (by omega) h0 h1)
  have hrd : Hid ((W.heap[w.heap.size]? = some (.cells #[.int .i64 a, .int .i64 b] 24 (0, 0)))) := by show _ = _; rw [hW]; exact heap_at_new _ _ _ rfl
  obtain ⟨cf, hcf⟩ : ∃ c, c = covF 1 a := ⟨_, rfl⟩
  obtain ⟨ct, hct⟩ : ∃ c, c = covT 1 b := ⟨_, rfl⟩
  rw [← hcf, ← hct] at CC
  have HCF := Lib.hid hcf
  have HCT := Lib.hid hct
  have anewE : Hid (∀ p : Ag, s.anew 1 a b p = if cf ≤ p.tk ∧ p.tk < ct then s.of 1 p.tk (p.tk + wid 1) else some p) := fun p => by rw [HCF.out, HCT.out]; rfl
  clear hcf hct hA cW hW hown hL hv hn i1
  go_enter Try.func59, Try.ntmps59
  go_wp2_with fail
  rw [← HW.out]
  refine CC.out.mono ?_
  rintro e w1 ⟨rfl, c1⟩
  obtain ⟨w2, hw2⟩ : ∃ w2, w2 = w1.alloc (.cells #[.int .i64 cf, .int .i64 ct] 24) := ⟨_, rfl⟩
  have c02 : Chg (fun _ => False) w w2 := by rw [hw2]; exact (CW.out.trans c1).alloc _
  have hc2 : Hid (w2.heap[w1.heap.size]? = some (.cells #[.int .i64 cf, .int .i64 ct] 24 (0, 0))) := by show _ = _; rw [hw2]; exact heap_at_new _ _ _ rfl
  have hq2 := c02.cell hq (fun h => h)
  rw [hw2] at hq2
  have C02 := Lib.hid c02
  have HC1 : Hid (w.heap.size ≤ w1.heap.size) := (CW.out.trans c1).size
  have HW2 := Lib.hid hw2
  clear c1 c02 hq hw2
  go_wp2_with fail
  rw [← HW2.out]
  clear hq2
  go_loopw [7, 22] (fun ov ci wr => ∃ k : Nat, k ≤ n ∧ ci = .int .i64 k ∧ Hid (OAgs wr ov ((L.take k).filterMap (s.anew 1 a b))) ∧ Hid (∀ q, ov.ownBlock = some q → w1.heap.size + 1 ≤ q) ∧ Hid (Chg (fun _ => False) w wr) ∧ Hid (wr.heap[w1.heap.size]? = some (.cells #[.int .i64 cf, .int .i64 ct] 24 (0, 0)))) (fun _ ci _ => n - (intOf ci).toNat)
  case atStart => exact ⟨0, by omega, rfl, Owns.nil _ _, by simp [Hid, Value.ownBlock], C02.out, hc2.out⟩
  case round =>
    obtain ⟨k, hk, rfl, hO, hF, hC, hCv⟩ := hrel
    clear hc2
    by_cases hlt : k < n
    · obtain ⟨p, hp⟩ := at_lt (show k < L.length by rw [← HN.out]; exact hlt)
      obtain ⟨g, o, rfl, h1, h2, h3⟩ := reads_some (n := n) (by have := H.out; unfold Ags at this; rw [← HN.out] at this; exact this) (by omega)
      have hld := load_agE wr (fun j u hj => hC.out.cell (h3 j u hj) (fun h => h)) hp
      obtain ⟨p0, p1, p2⟩ := hok.out k p hp
      obtain ⟨Wb, hWb⟩ : ∃ W, W = wr.alloc (.cells #[.int .i64 p.tk, .int .i64 p.cnt, .int .i64 p.sum, .int .i64 p.mn, .int .i64 p.mx] 58) := ⟨_, rfl⟩
      have cb : Chg (fun _ => False) wr Wb := by rw [hWb]; exact (Chg.refl _ wr).alloc _
      have hP : AgAt Wb wr.heap.size p := by rw [hWb]; exact ag_new wr p
      have hCvb : Wb.heap[w1.heap.size]? = some (.cells #[.int .i64 cf, .int .i64 ct] 24 (0, 0)) := cb.heap hCv.out (fun h => h)
      have qc0 : Wb.cell? ⟨w1.heap.size, 0, none⟩ = some (.int .i64 cf) := by rw [cell_of_heap hCvb]; rfl
      have qc1 : Wb.cell? ⟨w1.heap.size, 1, none⟩ = some (.int .i64 ct) := by rw [cell_of_heap hCvb]; rfl
      have e1 : L.take (k + 1) = L.take k ++ [p] := by rw [List.take_add_one, hp]; rfl
      obtain ⟨Ak, hAk⟩ : ∃ A, A = (L.take k).filterMap (s.anew 1 a b) := ⟨_, rfl⟩
      rw [← hAk] at hO
      have e2 : (L.take (k + 1)).filterMap (s.anew 1 a b) = Ak ++ (s.anew 1 a b p).toList := by
        rw [e1, List.filterMap_append, ← hAk, List.filterMap_cons, List.filterMap_nil]
        cases s.anew 1 a b p <;> rfl
      have hAl : Ak.length ≤ 256 := by rw [hAk]; have := List.length_filterMap_le (s.anew 1 a b) (L.take k); have := List.length_take_le k L; omega
      rw [anewE.out p] at e2
      obtain ⟨qa0, -⟩ := hP.cell
      have HP := Lib.hid hP
      have CB := Lib.hid cb
      have HWB := Lib.hid hWb
      have OCp := Lib.hid (fun W => OC.out W p.tk p0 p1)
      rw [show wst 1 p.tk = p.tk from wst_al p2] at OCp
      have IC := Lib.hid (window_in cf ct p.tk Wb)
      have CVB := Lib.hid hCvb
      rw [hWb] at qc0 qc1 qa0
      clear hWb cb hP e1 hAk h1 h2 h3 hp p0 p1 p2 hCvb
      by_cases hin : cf ≤ p.tk ∧ p.tk < ct
      · rw [if_pos hin] at e2
        rw [decide_eq_true hin] at IC
        obtain ⟨z, hz⟩ : ∃ z, z = (s.of 1 p.tk (p.tk + wid 1)).getD Ag.zero := ⟨_, rfl⟩
        obtain ⟨bb, hbb⟩ : ∃ b, b = (s.of 1 p.tk (p.tk + wid 1)).isSome := ⟨_, rfl⟩
        have SO : Hid (∀ W (G : Nat → Prop), StIs W G R s → Calls Try.prog 80 #[.pointer (some ⟨R, 0, none⟩), .int .i64 1, .agg #[.int .i64 p.tk, .int .i64 (p.tk + wid 1)]] W fun e w' => e = .returned (.tuple #[.agg #[.int .i64 z.tk, .int .i64 z.cnt, .int .i64 z.sum, .int .i64 z.mn, .int .i64 z.mx], .bool bb]) ∧ Chg (fun _ => False) W w') := fun W G hG => by
          have := stof_c W G R s 1 (by omega) p.tk (p.tk + wid 1) hG
          rw [aggO_eq, ← hz, ← hbb] at this
          exact this
        have E2 : Hid ((L.take (k + 1)).filterMap (s.anew 1 a b) = Ak ++ (if bb = true then [z] else [])) := by
          show _ = _
          rw [e2, hz, hbb]
          cases s.of 1 p.tk (p.tk + wid 1) <;> rfl
        clear e2 hz hbb hin
        go_wp2_with (first | refine wpList_load rfl 58 _ rfl _ _ rfl hld ?_)
        rw [← HWB.out]
        refine IC.out.mono ?_
        rintro e w3 ⟨rfl, c3⟩
        have hP3 : AgAt w3 wr.heap.size p := HP.out.kept c3 (fun h => h)
        obtain ⟨qa3, -⟩ := hP3.cell
        have C3' := Lib.hid (CB.out.trans c3)
        clear c3 qc0 qc1 qa0 hld hP3
        go_wp2_with fail
        refine (OCp.out _).mono ?_
        rintro e w4 ⟨rfl, c4⟩
        have C4' := Lib.hid (C3'.out.trans c4)
        have SO4 := Lib.hid (SO.out w4 _ (HIS.out.same (hC.out.trans (C3'.out.trans c4))))
        clear c4 qa3
        go_wp2_with fail
        refine SO4.out.mono ?_
        rintro e w5 ⟨rfl, c5⟩
        obtain ⟨w6, hw6⟩ : ∃ w6, w6 = w5.alloc (.cells #[.int .i64 z.tk, .int .i64 z.cnt, .int .i64 z.sum, .int .i64 z.mn, .int .i64 z.mx] 58) := ⟨_, rfl⟩
        have C6 : Hid (Chg (fun _ => False) wr w6) := by
          show Chg _ _ _
          rw [hw6]; exact (C4'.out.trans c5).alloc _
        have hZ6 : Hid (AgAt w6 w5.heap.size z) := by show AgAt _ _ _; rw [hw6]; exact ag_new w5 z
        have hCv6 : Hid (w6.heap[w1.heap.size]? = some (.cells #[.int .i64 cf, .int .i64 ct] 24 (0, 0))) := C6.out.heap hCv.out (fun h => h)
        replace hw6 := hw6.symm
        clear c5
        cases bb with
        | false =>
          have E3 : Hid ((L.take (k + 1)).filterMap (s.anew 1 a b) = Ak) := by show _ = _; rw [E2.out]; simp
          clear E2
          go_wp2_with fail
          refine ⟨⟨k + 1, by omega, rfl, ?_, hF.out, hC.out.trans C6.out, hCv6.out⟩, by simp only [intOf]; omega⟩
          show OAgs _ _ _
          rw [E3.out]
          exact hO.out.chgd C6.out (fun _ _ h => h)
        | true =>
          have E3 : Hid ((L.take (k + 1)).filterMap (s.anew 1 a b) = Ak ++ [z]) := by show _ = _; rw [E2.out]; simp
          clear E2
          have hO3 : Hid (OAgs w6 u7 Ak) := hO.out.chgd C6.out (fun _ _ h => h)
          have hA3 : AgAt w6 w5.heap.size z := hZ6.out
          have hl9 := hA3.load
          have pv : (Value.agg (z).cells.toArray) = .agg #[.int .i64 (z).tk, .int .i64 (z).cnt, .int .i64 (z).sum, .int .i64 (z).mn, .int .i64 (z).mx] := rfl
          rw [pv] at hl9
          obtain ⟨oa, oc, hov⟩ := Owns.form hO3.out
          obtain ⟨m, hm⟩ : ∃ m, m = Ak.length := ⟨_, rfl⟩
          have HMM := Lib.hid hm
          have ow : Hid (Owns w6 5 (.slice oa m oc) m (Ak.flatMap Ag.cells)) := by have h := hO3.out; unfold OAgs at h; rw [hov, ← hm] at h; exact h
          rw [← hm] at hAl hov
          have A1 := Lib.hid (agone z)
          subst hov
          skip
          clear hm pv hA3
          go_wp2_with (first | refine wpList_load rfl 58 _ rfl _ _ rfl hl9 ?_ | (at_builtin; go_loud (refine wpList_app_one rfl _ _ 51 rfl 58 (.agg #[.int .i64 0, .int .i64 0, .int .i64 0, .int .i64 0, .int .i64 0]) 5 40 Try.underlying51 infoAg rfl (.slice oa m oc) m (Ak.flatMap Ag.cells) [.int .i64 (z).tk, .int .i64 (z).cnt, .int .i64 (z).sum, .int .i64 (z).mn, .int .i64 (z).mx] _ rfl rfl ow.out rfl A1.out (by simp only [maxLen]; omega) (by omega) ?_; intro v' w' own' c' in' nn'; refine Hid.out ?_)))
          skip
          obtain ⟨va', vc', rfl⟩ := own'.form
          have O4 := Lib.hid own'
          have C4 := Lib.hid c'
          have I4 := Lib.hid in'
          clear own' c' in' nn' hl9
          refine Lib.hid ?_
          go_wp2_with fail
          have C3 : Hid (Chg (fun _ => False) w w6) := hC.out.trans C6.out
          refine ⟨⟨k + 1, by omega, rfl, ?_, fun q hq => ?_, C3.out.new C4.out (fun q hq => by have := hF.out q hq; have := HC1.out; omega), C4.out.heap hCv6.out (fun h => by have := hF.out _ h; omega)⟩, by simp only [intOf]; omega⟩
          · have h := O4.out
            rw [HMM.out] at h ⊢
            show Owns _ _ _ _ _
            rw [E3.out, agk_cells, List.length_append]
            exact h
          · rcases I4.out q hq with h | h
            · exact hF.out q h
            · have := (Array.getElem?_eq_some_iff.1 hCv6.out).1; omega
      · rw [if_neg hin] at e2
        rw [decide_eq_false hin] at IC
        have E3 : Hid ((L.take (k + 1)).filterMap (s.anew 1 a b) = Ak ++ [p]) := e2
        clear e2 hin
        go_wp2_with (first | refine wpList_load rfl 58 _ rfl _ _ rfl hld ?_)
        rw [← HWB.out]
        refine IC.out.mono ?_
        rintro e w3 ⟨rfl, c3⟩
        have C3' : Hid (Chg (fun _ => False) wr w3) := CB.out.trans c3
        have hP3 : Hid (AgAt w3 wr.heap.size p) := HP.out.kept c3 (fun h => h)
        have hCv3 : Hid (w3.heap[w1.heap.size]? = some (.cells #[.int .i64 cf, .int .i64 ct] 24 (0, 0))) := c3.heap CVB.out (fun h => h)
        clear c3 qc0 qc1 qa0 hld
        have hO3 : Hid (OAgs w3 u7 Ak) := hO.out.chgd C3'.out (fun _ _ h => h)
        have hA3 : AgAt w3 wr.heap.size p := hP3.out
        have hl9 := hA3.load
        have pv : (Value.agg (p).cells.toArray) = .agg #[.int .i64 (p).tk, .int .i64 (p).cnt, .int .i64 (p).sum, .int .i64 (p).mn, .int .i64 (p).mx] := rfl
        rw [pv] at hl9
        obtain ⟨oa, oc, hov⟩ := Owns.form hO3.out
        obtain ⟨m, hm⟩ : ∃ m, m = Ak.length := ⟨_, rfl⟩
        have HMM := Lib.hid hm
        have ow : Hid (Owns w3 5 (.slice oa m oc) m (Ak.flatMap Ag.cells)) := by have h := hO3.out; unfold OAgs at h; rw [hov, ← hm] at h; exact h
        rw [← hm] at hAl hov
        have A1 := Lib.hid (agone p)
        subst hov
        skip
        clear hm pv hA3
        go_wp2_with (first | refine wpList_load rfl 58 _ rfl _ _ rfl hl9 ?_ | (at_builtin; go_loud (refine wpList_app_one rfl _ _ 51 rfl 58 (.agg #[.int .i64 0, .int .i64 0, .int .i64 0, .int .i64 0, .int .i64 0]) 5 40 Try.underlying51 infoAg rfl (.slice oa m oc) m (Ak.flatMap Ag.cells) [.int .i64 (p).tk, .int .i64 (p).cnt, .int .i64 (p).sum, .int .i64 (p).mn, .int .i64 (p).mx] _ rfl rfl ow.out rfl A1.out (by simp only [maxLen]; omega) (by omega) ?_; intro v' w' own' c' in' nn'; refine Hid.out ?_)))
        skip
        obtain ⟨va', vc', rfl⟩ := own'.form
        have O4 := Lib.hid own'
        have C4 := Lib.hid c'
        have I4 := Lib.hid in'
        clear own' c' in' nn' hl9
        refine Lib.hid ?_
        go_wp2_with fail
        have C3 : Hid (Chg (fun _ => False) w w3) := hC.out.trans C3'.out
        refine ⟨⟨k + 1, by omega, rfl, ?_, fun q hq => ?_, C3.out.new C4.out (fun q hq => by have := hF.out q hq; have := HC1.out; omega), C4.out.heap hCv3.out (fun h => by have := hF.out _ h; omega)⟩, by simp only [intOf]; omega⟩
        · have h := O4.out
          rw [HMM.out] at h ⊢
          show Owns _ _ _ _ _
          rw [E3.out, agk_cells, List.length_append]
          exact h
        · rcases I4.out q hq with h | h
          · exact hF.out q h
          · have := (Array.getElem?_eq_some_iff.1 hCv3.out).1; omega
    · obtain rfl : k = n := by omega
      have hO : OAgs wr u7 (s.againL 1 a b) := by
        have h := hO.out
        rw [HN.out, List.take_length, HL.out] at h
        exact h
      obtain ⟨oa, oc, hov⟩ := Owns.form hO
      obtain ⟨k1, k2, k3, k4⟩ := HA.out.seta 1 (by omega) (v' := u7) (l := s.againL 1 a b) hO (hC.out.mono (fun _ _ h => h.elim)) (fun q hq => .inr (by have := hF.out q hq; have := HC1.out; omega)) (again_ok HA.out.inv 1 (by omega) a b)
      have K1 := Lib.hid k1
      have K2 := Lib.hid k2
      replace k3 : wr.cell? ⟨R, 2, none⟩ = some vm := k3
      replace k4 : wr.frozen? ⟨R, 2, none⟩ = false := k4
      subst hov
      clear k1 k2 hO
      go_wp2_with fail
      go_end0
      exact ⟨rfl, K1.out, K2.out⟩
set_option maxRecDepth 100000 in
set_option maxHeartbeats 4000000 in
theorem again2_c (w : World) (F : Nat → Prop) (R : Nat) (s : St) (a b : Int) (h : StIs w F R s) (h0 : 0 ≤ a) (hab : a < b) (hb : b ≤ 1099511627777) :
    Calls Try.prog 59 #[.pointer (some ⟨R, 0, none⟩), .int .i64 2, .agg #[.int .i64 a, .int .i64 b]] w fun e w' => e = .returned (.tuple #[]) ∧ StIs w' (ext F w w') R (s.setA 2 (s.againL 2 a b)) ∧ Chg F w w' := by
  have HIS := Lib.hid h
  obtain ⟨R1, vr, vm, vl, hA⟩ := h
  obtain ⟨W, hW⟩ : ∃ W, W = w.alloc (.cells #[.int .i64 a, .int .i64 b] 24) := ⟨_, rfl⟩
  have cW : Chg (fun _ => False) w W := by rw [hW]; exact (Chg.refl _ w).alloc _
  have CC := Lib.hid (cover_c W 2 a b (by omega) (by omega) h0 hab hb)
  have hq := (hA.mark 2 (by omega)).2.2.1
  have hown := (hA.own 2 (by omega)).1
  replace hq : w.cell? ⟨R, 3, none⟩ = some vl := hq
  replace hown : OAgs w vl (s.agg 2) := hown
  obtain ⟨i1, i2, i3, i4⟩ := hA.inv.mkOk 2 (by omega)
  obtain ⟨L, hL⟩ : ∃ L, L = s.agg 2 := ⟨_, rfl⟩
  rw [← hL] at hown i1 i2
  obtain ⟨va, vc, hv⟩ := Owns.form hown
  obtain ⟨n, hn⟩ : ∃ n, n = L.length := ⟨_, rfl⟩
  have H : Hid (Ags w (.slice va n vc) L) := by rw [hn]; rw [hv] at hown; exact Owns.reads hown
  rw [hv, ← hn] at hq
  rw [← hn] at i2
  have HN := Lib.hid hn
  have HL := Lib.hid hL
  have hok : Hid (∀ (k : Nat) (p : Ag), L[k]? = some p → 0 ≤ p.tk ∧ p.tk ≤ 4611686018427387904 ∧ p.tk % wid 2 = 0) := fun k p hp => agokT i1 i4 hp
  have HA := Lib.hid hA
  have CW := Lib.hid cW
  have HW := Lib.hid hW
  have OC := Lib.hid (fun W x h0 h1 => of_c W 2 x (by omega) h0 h1)
  have hrd : Hid ((W.heap[w.heap.size]? = some (.cells #[.int .i64 a, .int .i64 b] 24 (0, 0)))) := by show _ = _; rw [hW]; exact heap_at_new _ _ _ rfl
  obtain ⟨cf, hcf⟩ : ∃ c, c = covF 2 a := ⟨_, rfl⟩
  obtain ⟨ct, hct⟩ : ∃ c, c = covT 2 b := ⟨_, rfl⟩
  rw [← hcf, ← hct] at CC
  have HCF := Lib.hid hcf
  have HCT := Lib.hid hct
  have anewE : Hid (∀ p : Ag, s.anew 2 a b p = if cf ≤ p.tk ∧ p.tk < ct then s.of 2 p.tk (p.tk + wid 2) else some p) := fun p => by rw [HCF.out, HCT.out]; rfl
  clear hcf hct hA cW hW hown hL hv hn i1
  go_enter Try.func59, Try.ntmps59
  go_wp2_with fail
  rw [← HW.out]
  refine CC.out.mono ?_
  rintro e w1 ⟨rfl, c1⟩
  obtain ⟨w2, hw2⟩ : ∃ w2, w2 = w1.alloc (.cells #[.int .i64 cf, .int .i64 ct] 24) := ⟨_, rfl⟩
  have c02 : Chg (fun _ => False) w w2 := by rw [hw2]; exact (CW.out.trans c1).alloc _
  have hc2 : Hid (w2.heap[w1.heap.size]? = some (.cells #[.int .i64 cf, .int .i64 ct] 24 (0, 0))) := by show _ = _; rw [hw2]; exact heap_at_new _ _ _ rfl
  have hq2 := c02.cell hq (fun h => h)
  rw [hw2] at hq2
  have C02 := Lib.hid c02
  have HC1 : Hid (w.heap.size ≤ w1.heap.size) := (CW.out.trans c1).size
  have HW2 := Lib.hid hw2
  clear c1 c02 hq hw2
  go_wp2_with fail
  rw [← HW2.out]
  clear hq2
  go_loopw [7, 22] (fun ov ci wr => ∃ k : Nat, k ≤ n ∧ ci = .int .i64 k ∧ Hid (OAgs wr ov ((L.take k).filterMap (s.anew 2 a b))) ∧ Hid (∀ q, ov.ownBlock = some q → w1.heap.size + 1 ≤ q) ∧ Hid (Chg (fun _ => False) w wr) ∧ Hid (wr.heap[w1.heap.size]? = some (.cells #[.int .i64 cf, .int .i64 ct] 24 (0, 0)))) (fun _ ci _ => n - (intOf ci).toNat)
  case atStart => exact ⟨0, by omega, rfl, Owns.nil _ _, by simp [Hid, Value.ownBlock], C02.out, hc2.out⟩
  case round =>
    obtain ⟨k, hk, rfl, hO, hF, hC, hCv⟩ := hrel
    clear hc2
    by_cases hlt : k < n
    · obtain ⟨p, hp⟩ := at_lt (show k < L.length by rw [← HN.out]; exact hlt)
      obtain ⟨g, o, rfl, h1, h2, h3⟩ := reads_some (n := n) (by have := H.out; unfold Ags at this; rw [← HN.out] at this; exact this) (by omega)
      have hld := load_agE wr (fun j u hj => hC.out.cell (h3 j u hj) (fun h => h)) hp
      obtain ⟨p0, p1, p2⟩ := hok.out k p hp
      obtain ⟨Wb, hWb⟩ : ∃ W, W = wr.alloc (.cells #[.int .i64 p.tk, .int .i64 p.cnt, .int .i64 p.sum, .int .i64 p.mn, .int .i64 p.mx] 58) := ⟨_, rfl⟩
      have cb : Chg (fun _ => False) wr Wb := by rw [hWb]; exact (Chg.refl _ wr).alloc _
      have hP : AgAt Wb wr.heap.size p := by rw [hWb]; exact ag_new wr p
      have hCvb : Wb.heap[w1.heap.size]? = some (.cells #[.int .i64 cf, .int .i64 ct] 24 (0, 0)) := cb.heap hCv.out (fun h => h)
      have qc0 : Wb.cell? ⟨w1.heap.size, 0, none⟩ = some (.int .i64 cf) := by rw [cell_of_heap hCvb]; rfl
      have qc1 : Wb.cell? ⟨w1.heap.size, 1, none⟩ = some (.int .i64 ct) := by rw [cell_of_heap hCvb]; rfl
      have e1 : L.take (k + 1) = L.take k ++ [p] := by rw [List.take_add_one, hp]; rfl
      obtain ⟨Ak, hAk⟩ : ∃ A, A = (L.take k).filterMap (s.anew 2 a b) := ⟨_, rfl⟩
      rw [← hAk] at hO
      have e2 : (L.take (k + 1)).filterMap (s.anew 2 a b) = Ak ++ (s.anew 2 a b p).toList := by
        rw [e1, List.filterMap_append, ← hAk, List.filterMap_cons, List.filterMap_nil]
        cases s.anew 2 a b p <;> rfl
      have hAl : Ak.length ≤ 256 := by rw [hAk]; have := List.length_filterMap_le (s.anew 2 a b) (L.take k); have := List.length_take_le k L; omega
      rw [anewE.out p] at e2
      obtain ⟨qa0, -⟩ := hP.cell
      have HP := Lib.hid hP
      have CB := Lib.hid cb
      have HWB := Lib.hid hWb
      have OCp := Lib.hid (fun W => OC.out W p.tk p0 p1)
      rw [show wst 2 p.tk = p.tk from wst_al p2] at OCp
      have IC := Lib.hid (window_in cf ct p.tk Wb)
      have CVB := Lib.hid hCvb
      rw [hWb] at qc0 qc1 qa0
      clear hWb cb hP e1 hAk h1 h2 h3 hp p0 p1 p2 hCvb
      by_cases hin : cf ≤ p.tk ∧ p.tk < ct
      · rw [if_pos hin] at e2
        rw [decide_eq_true hin] at IC
        obtain ⟨z, hz⟩ : ∃ z, z = (s.of 2 p.tk (p.tk + wid 2)).getD Ag.zero := ⟨_, rfl⟩
        obtain ⟨bb, hbb⟩ : ∃ b, b = (s.of 2 p.tk (p.tk + wid 2)).isSome := ⟨_, rfl⟩
        have SO : Hid (∀ W (G : Nat → Prop), StIs W G R s → Calls Try.prog 80 #[.pointer (some ⟨R, 0, none⟩), .int .i64 2, .agg #[.int .i64 p.tk, .int .i64 (p.tk + wid 2)]] W fun e w' => e = .returned (.tuple #[.agg #[.int .i64 z.tk, .int .i64 z.cnt, .int .i64 z.sum, .int .i64 z.mn, .int .i64 z.mx], .bool bb]) ∧ Chg (fun _ => False) W w') := fun W G hG => by
          have := stof_c W G R s 2 (by omega) p.tk (p.tk + wid 2) hG
          rw [aggO_eq, ← hz, ← hbb] at this
          exact this
        have E2 : Hid ((L.take (k + 1)).filterMap (s.anew 2 a b) = Ak ++ (if bb = true then [z] else [])) := by
          show _ = _
          rw [e2, hz, hbb]
          cases s.of 2 p.tk (p.tk + wid 2) <;> rfl
        clear e2 hz hbb hin
        go_wp2_with (first | refine wpList_load rfl 58 _ rfl _ _ rfl hld ?_)
        rw [← HWB.out]
        refine IC.out.mono ?_
        rintro e w3 ⟨rfl, c3⟩
        have hP3 : AgAt w3 wr.heap.size p := HP.out.kept c3 (fun h => h)
        obtain ⟨qa3, -⟩ := hP3.cell
        have C3' := Lib.hid (CB.out.trans c3)
        clear c3 qc0 qc1 qa0 hld hP3
        go_wp2_with fail
        refine (OCp.out _).mono ?_
        rintro e w4 ⟨rfl, c4⟩
        have C4' := Lib.hid (C3'.out.trans c4)
        have SO4 := Lib.hid (SO.out w4 _ (HIS.out.same (hC.out.trans (C3'.out.trans c4))))
        clear c4 qa3
        go_wp2_with fail
        refine SO4.out.mono ?_
        rintro e w5 ⟨rfl, c5⟩
        obtain ⟨w6, hw6⟩ : ∃ w6, w6 = w5.alloc (.cells #[.int .i64 z.tk, .int .i64 z.cnt, .int .i64 z.sum, .int .i64 z.mn, .int .i64 z.mx] 58) := ⟨_, rfl⟩
        have C6 : Hid (Chg (fun _ => False) wr w6) := by
          show Chg _ _ _
          rw [hw6]; exact (C4'.out.trans c5).alloc _
        have hZ6 : Hid (AgAt w6 w5.heap.size z) := by show AgAt _ _ _; rw [hw6]; exact ag_new w5 z
        have hCv6 : Hid (w6.heap[w1.heap.size]? = some (.cells #[.int .i64 cf, .int .i64 ct] 24 (0, 0))) := C6.out.heap hCv.out (fun h => h)
        replace hw6 := hw6.symm
        clear c5
        cases bb with
        | false =>
          have E3 : Hid ((L.take (k + 1)).filterMap (s.anew 2 a b) = Ak) := by show _ = _; rw [E2.out]; simp
          clear E2
          go_wp2_with fail
          refine ⟨⟨k + 1, by omega, rfl, ?_, hF.out, hC.out.trans C6.out, hCv6.out⟩, by simp only [intOf]; omega⟩
          show OAgs _ _ _
          rw [E3.out]
          exact hO.out.chgd C6.out (fun _ _ h => h)
        | true =>
          have E3 : Hid ((L.take (k + 1)).filterMap (s.anew 2 a b) = Ak ++ [z]) := by show _ = _; rw [E2.out]; simp
          clear E2
          have hO3 : Hid (OAgs w6 u7 Ak) := hO.out.chgd C6.out (fun _ _ h => h)
          have hA3 : AgAt w6 w5.heap.size z := hZ6.out
          have hl9 := hA3.load
          have pv : (Value.agg (z).cells.toArray) = .agg #[.int .i64 (z).tk, .int .i64 (z).cnt, .int .i64 (z).sum, .int .i64 (z).mn, .int .i64 (z).mx] := rfl
          rw [pv] at hl9
          obtain ⟨oa, oc, hov⟩ := Owns.form hO3.out
          obtain ⟨m, hm⟩ : ∃ m, m = Ak.length := ⟨_, rfl⟩
          have HMM := Lib.hid hm
          have ow : Hid (Owns w6 5 (.slice oa m oc) m (Ak.flatMap Ag.cells)) := by have h := hO3.out; unfold OAgs at h; rw [hov, ← hm] at h; exact h
          rw [← hm] at hAl hov
          have A1 := Lib.hid (agone z)
          subst hov
          skip
          clear hm pv hA3
          go_wp2_with (first | refine wpList_load rfl 58 _ rfl _ _ rfl hl9 ?_ | (at_builtin; go_loud (refine wpList_app_one rfl _ _ 51 rfl 58 (.agg #[.int .i64 0, .int .i64 0, .int .i64 0, .int .i64 0, .int .i64 0]) 5 40 Try.underlying51 infoAg rfl (.slice oa m oc) m (Ak.flatMap Ag.cells) [.int .i64 (z).tk, .int .i64 (z).cnt, .int .i64 (z).sum, .int .i64 (z).mn, .int .i64 (z).mx] _ rfl rfl ow.out rfl A1.out (by simp only [maxLen]; omega) (by omega) ?_; intro v' w' own' c' in' nn'; refine Hid.out ?_)))
          skip
          obtain ⟨va', vc', rfl⟩ := own'.form
          have O4 := Lib.hid own'
          have C4 := Lib.hid c'
          have I4 := Lib.hid in'
          clear own' c' in' nn' hl9
          refine Lib.hid ?_
          go_wp2_with fail
          have C3 : Hid (Chg (fun _ => False) w w6) := hC.out.trans C6.out
          refine ⟨⟨k + 1, by omega, rfl, ?_, fun q hq => ?_, C3.out.new C4.out (fun q hq => by have := hF.out q hq; have := HC1.out; omega), C4.out.heap hCv6.out (fun h => by have := hF.out _ h; omega)⟩, by simp only [intOf]; omega⟩
          · have h := O4.out
            rw [HMM.out] at h ⊢
            show Owns _ _ _ _ _
            rw [E3.out, agk_cells, List.length_append]
            exact h
          · rcases I4.out q hq with h | h
            · exact hF.out q h
            · have := (Array.getElem?_eq_some_iff.1 hCv6.out).1; omega
      · rw [if_neg hin] at e2
        rw [decide_eq_false hin] at IC
        have E3 : Hid ((L.take (k + 1)).filterMap (s.anew 2 a b) = Ak ++ [p]) := e2
        clear e2 hin
        go_wp2_with (first | refine wpList_load rfl 58 _ rfl _ _ rfl hld ?_)
        rw [← HWB.out]
        refine IC.out.mono ?_
        rintro e w3 ⟨rfl, c3⟩
        have C3' : Hid (Chg (fun _ => False) wr w3) := CB.out.trans c3
        have hP3 : Hid (AgAt w3 wr.heap.size p) := HP.out.kept c3 (fun h => h)
        have hCv3 : Hid (w3.heap[w1.heap.size]? = some (.cells #[.int .i64 cf, .int .i64 ct] 24 (0, 0))) := c3.heap CVB.out (fun h => h)
        clear c3 qc0 qc1 qa0 hld
        have hO3 : Hid (OAgs w3 u7 Ak) := hO.out.chgd C3'.out (fun _ _ h => h)
        have hA3 : AgAt w3 wr.heap.size p := hP3.out
        have hl9 := hA3.load
        have pv : (Value.agg (p).cells.toArray) = .agg #[.int .i64 (p).tk, .int .i64 (p).cnt, .int .i64 (p).sum, .int .i64 (p).mn, .int .i64 (p).mx] := rfl
        rw [pv] at hl9
        obtain ⟨oa, oc, hov⟩ := Owns.form hO3.out
        obtain ⟨m, hm⟩ : ∃ m, m = Ak.length := ⟨_, rfl⟩
        have HMM := Lib.hid hm
        have ow : Hid (Owns w3 5 (.slice oa m oc) m (Ak.flatMap Ag.cells)) := by have h := hO3.out; unfold OAgs at h; rw [hov, ← hm] at h; exact h
        rw [← hm] at hAl hov
        have A1 := Lib.hid (agone p)
        subst hov
        skip
        clear hm pv hA3
        go_wp2_with (first | refine wpList_load rfl 58 _ rfl _ _ rfl hl9 ?_ | (at_builtin; go_loud (refine wpList_app_one rfl _ _ 51 rfl 58 (.agg #[.int .i64 0, .int .i64 0, .int .i64 0, .int .i64 0, .int .i64 0]) 5 40 Try.underlying51 infoAg rfl (.slice oa m oc) m (Ak.flatMap Ag.cells) [.int .i64 (p).tk, .int .i64 (p).cnt, .int .i64 (p).sum, .int .i64 (p).mn, .int .i64 (p).mx] _ rfl rfl ow.out rfl A1.out (by simp only [maxLen]; omega) (by omega) ?_; intro v' w' own' c' in' nn'; refine Hid.out ?_)))
        skip
        obtain ⟨va', vc', rfl⟩ := own'.form
        have O4 := Lib.hid own'
        have C4 := Lib.hid c'
        have I4 := Lib.hid in'
        clear own' c' in' nn' hl9
        refine Lib.hid ?_
        go_wp2_with fail
        have C3 : Hid (Chg (fun _ => False) w w3) := hC.out.trans C3'.out
        refine ⟨⟨k + 1, by omega, rfl, ?_, fun q hq => ?_, C3.out.new C4.out (fun q hq => by have := hF.out q hq; have := HC1.out; omega), C4.out.heap hCv3.out (fun h => by have := hF.out _ h; omega)⟩, by simp only [intOf]; omega⟩
        · have h := O4.out
          rw [HMM.out] at h ⊢
          show Owns _ _ _ _ _
          rw [E3.out, agk_cells, List.length_append]
          exact h
        · rcases I4.out q hq with h | h
          · exact hF.out q h
          · have := (Array.getElem?_eq_some_iff.1 hCv3.out).1; omega
    · obtain rfl : k = n := by omega
      have hO : OAgs wr u7 (s.againL 2 a b) := by
        have h := hO.out
        rw [HN.out, List.take_length, HL.out] at h
        exact h
      obtain ⟨oa, oc, hov⟩ := Owns.form hO
      obtain ⟨k1, k2, k3, k4⟩ := HA.out.seta 2 (by omega) (v' := u7) (l := s.againL 2 a b) hO (hC.out.mono (fun _ _ h => h.elim)) (fun q hq => .inr (by have := hF.out q hq; have := HC1.out; omega)) (again_ok HA.out.inv 2 (by omega) a b)
      have K1 := Lib.hid k1
      have K2 := Lib.hid k2
      replace k3 : wr.cell? ⟨R, 3, none⟩ = some vl := k3
      replace k4 : wr.frozen? ⟨R, 3, none⟩ = false := k4
      subst hov
      clear k1 k2 hO
      go_wp2_with fail
      go_end0
      exact ⟨rfl, K1.out, K2.out⟩
theorem again_c (w : World) (F : Nat → Prop) (R : Nat) (s : St) (t : Nat) (ht : t = 1 ∨ t = 2) (a b : Int) (h : StIs w F R s) (h0 : 0 ≤ a) (hab : a < b) (hb : b ≤ 1099511627777) :
    Calls Try.prog 59 #[.pointer (some ⟨R, 0, none⟩), .int .i64 t, .agg #[.int .i64 a, .int .i64 b]] w fun e w' => e = .returned (.tuple #[]) ∧ StIs w' (ext F w w') R (s.setA t (s.againL t a b)) ∧ Chg F w w' := by
  rcases ht with rfl | rfl
  · exact again1_c w F R s a b h h0 hab hb
  · exact again2_c w F R s a b h h0 hab hb
end Go.Proofs.Ytmnnahkaenikkaa
