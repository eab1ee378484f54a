/- The law StampTorn, its walk. -/
import Derived.Test.YtncgeeaifacapaaL09e
import Derived.Test.YtncgeeaifacapaaL09f
import Derived.Deep.CutRange
namespace Go.Proofs.Ytncgeeaifacapaa
open Go.RowKit Go.Cat

theorem str_torn (fresh old : List UInt8) (k : Nat) (h : old.length = 64) : ByteArray.extract ⟨fresh.toArray⟩ 0 k ++ ByteArray.extract ⟨old.toArray⟩ k 64 = ⟨(fresh.take k ++ old.drop k).toArray⟩ := by
  have e1 : (ByteArray.extract ⟨fresh.toArray⟩ 0 k) = ⟨(fresh.take k).toArray⟩ := by apply ByteArray.ext; simp
  have e2 : (ByteArray.extract ⟨old.toArray⟩ k 64) = ⟨(old.drop k).toArray⟩ := by
    apply ByteArray.ext; simp
    rw [← h, List.take_of_length_le (by simp)]
  rw [e1, e2]
  apply ByteArray.ext
  simp
theorem rb_one {w : World} {v : Value} {l : List UInt8} (h : RB w v l) : v.oneCell' = true := by
  obtain ⟨a, c, rfl⟩ := h.form
  rfl
theorem store_sector (w : World) (g : Nat) (c : Array Value) (T : TypeId) (t p : Int) (l : Bool) (dv : Value) (h : w.heap[g]? = some (.cells c T (0, 0))) (hc : c.size = 4) (hd : dv.oneCell' = true) :
    (Instr.storeAt 42 (.pointer (some ⟨g, 0, none⟩)) (.agg #[.int .u32 t, .int .u32 p, .bool l, dv])).run Try.prog w = .ok () ((((w.setCell ⟨g, 0, none⟩ (.int .u32 t)).setCell ⟨g, 1, none⟩ (.int .u32 p)).setCell ⟨g, 2, none⟩ (.bool l)).setCell ⟨g, 3, none⟩ dv) := by
  refine run_storeAt_agg (P := Try.prog) w 42 g 0 [.int .u32 t, .int .u32 p, .bool l, dv] (by kernel_rfl) (fun j hj => ?_) (fun j _ => frozen_of_heap h _) (fun v hv => ?_)
  · rw [cell_of_heap h, Array.getElem?_eq_getElem (by simp at hj; omega)]; rfl
  · simp at hv
    rcases hv with rfl | rfl | rfl | rfl
    · rfl
    · rfl
    · rfl
    · exact hd
theorem wp_alloc {P : Program} {o : Oper} {a : Act} {w : World} {K : Act → World → Prop} {Q : Exit → Act → World → Prop} (t : TypeId) (ho : o.op = .alloc t) (z : Value) (n : Nat) (h : (P.info? t).map (fun i => (i.zero, i.size)) = some (some z, n)) (wa : World) (b : Nat) (hb : b = w.heap.size) (hwa : wa = w.alloc (.cells z.cells t))
    (hk : K (a.put o.dst (.pointer (some ⟨b, 0, none⟩))) wa) : o.wp P a w K Q := by
  subst hb hwa
  unfold Oper.wp execOp
  simp only [ho, Sem.run_bind, Sem.run_pure, run_alloc_agg w t z n h, Result.andThen_ok]
  exact hk
theorem exec_convert {P : Program} {o : Oper} {a : Act} {w : World} (src dst : TypeId) (x : Operand) (v0 v : Value) (w' : World) (ho : o.op = .convert src dst x) (hx : a.eval x = v0) (h : (convert src dst v0).run P w = .ok v w') : (execOp a.eval o).run P w = .ok (.value v) w' := by
  unfold execOp
  simp only [ho, hx, Sem.run_bind, Sem.run_pure, h, Result.andThen_ok]
def TornRes (w : World) (T P T2 P2 : Nat) (L L2 : Bool) (d d2 : List UInt8) (r : Int) (T' P' : Nat) (L' : Bool) (dv' : Value) (code : Int) : Prop :=
  (code = 0 ∧ T = T' ∧ P = P' ∧ L = L' ∧ RB w dv' d ∧ r ≠ 1) ∨ (code = 0 ∧ T2 = T' ∧ P2 = P' ∧ L2 = L' ∧ RB w dv' d2 ∧ r ≠ 2) ∨ code = 5 ∨ (code = 7 ∧ r ≠ 0)
theorem torn_kept {S : Nat → Prop} {w w' : World} {T P T2 P2 : Nat} {L L2 : Bool} {d d2 : List UInt8} {r : Int} {T' P' : Nat} {L' : Bool} {dv' : Value} {code : Int} (h : TornRes w T P T2 P2 L L2 d d2 r T' P' L' dv' code) (c : Chg S w w') (hs : ∀ k, dv'.ownBlock = some k → ¬ S k) : TornRes w' T P T2 P2 L L2 d d2 r T' P' L' dv' code := by
  rcases h with ⟨h1, h2, h3, h4, h5, h6⟩ | ⟨h1, h2, h3, h4, h5, h6⟩ | h | h
  · exact .inl ⟨h1, h2, h3, h4, h5.kept c hs, h6⟩
  · exact .inr (.inl ⟨h1, h2, h3, h4, h5.kept c hs, h6⟩)
  · exact .inr (.inr (.inl h))
  · exact .inr (.inr (.inr h))
theorem unpack3 (v : Value) (w : World) (l : List UInt8) (T P T2 P2 : Nat) (L L2 : Bool) (d d2 : List UInt8) (r : Int) (hv : RB w v l) (hT : T < 4294967296) (hP : P < 4294967296) (hT2 : T2 < 4294967296) (hP2 : P2 < 4294967296) (h0 : T ≠ 0) (h02 : T2 ≠ 0)
    (hd : d.length ≤ 47) (hd2 : d2.length ≤ 47) (hl : l.length = 64)
    (h3 : (∀ x ∈ l, x = 0) ∧ r ≠ 0 ∨ (¬ ∀ x ∈ l, x = 0) ∧ ¬ stampsAlike l ∨ l = packOf T P L d ∧ r ≠ 1 ∨ l = packOf T2 P2 L2 d2 ∧ r ≠ 2) :
    Calls Try.prog 35 #[v] w fun e w' => ∃ (T' P' : Nat) (L' : Bool) (dv' : Value) (code : Int), e = .returned (.tuple #[.agg #[.int .u32 T', .int .u32 P', .bool L', dv'], .int .i64 code]) ∧ dv'.oneCell' = true ∧ Fresh w dv' ∧ (∀ k, dv'.ownBlock = some k → k < w'.heap.size) ∧ TornRes w' T P T2 P2 L L2 d d2 r T' P' L' dv' code ∧ Chg (fun _ => False) w w' := by
  have pk : ∀ (T P : Nat) (L : Bool) (d : List UInt8), T < 4294967296 → P < 4294967296 → T ≠ 0 → d.length ≤ 47 → l = packOf T P L d →
      Calls Try.prog 35 #[v] w fun e w' => ∃ dv', e = .returned (.tuple #[.agg #[.int .u32 T, .int .u32 P, .bool L, dv'], .int .i64 0]) ∧ RB w' dv' d ∧ Fresh w dv' ∧ Chg (fun _ => False) w w' := by
    intro T P L d hT hP h0 hd hlp
    subst hlp
    refine (unpack_ok v w _ hv hl (pack_some hT h0) (pack_alike hd) (pack_clean hd hT h0)).mono ?_
    rintro e w' ⟨dv, rfl, h1, f1, h2⟩
    have e1 : decide (128 ≤ ofBe (((packOf T P L d).drop 8).take 1)) = L := by
      rw [pack_num hd]; cases L
      · exact decide_eq_false (by simp; omega)
      · exact decide_eq_true (by simp)
    refine ⟨dv, ?_, ?_, f1, h2⟩
    · rw [e1, pack_t, ofBe_be T 4 (by omega), pack_p, ofBe_be P 4 (by omega)]
    · rw [pack_mod hd, pack_d hd, List.take_left' rfl] at h1
      exact h1.rb
  rcases h3 with ⟨hz, hr⟩ | ⟨hz, ha⟩ | ⟨hp, hr⟩ | ⟨hp, hr⟩
  · refine (unpack_zero v w l hv hl hz).mono ?_
    rintro e w' ⟨rfl, c⟩
    exact ⟨0, 0, false, .slice none 0 0, 7, rfl, rfl, by simp [Fresh, Value.ownBlock], by simp [Value.ownBlock], .inr (.inr (.inr ⟨rfl, hr⟩)), c⟩
  · refine (unpack_torn v w l hv hl hz ha).mono ?_
    rintro e w' ⟨rfl, c⟩
    exact ⟨0, 0, false, .slice none 0 0, 5, rfl, rfl, by simp [Fresh, Value.ownBlock], by simp [Value.ownBlock], .inr (.inr (.inl rfl)), c⟩
  · refine (pk T P L d hT hP h0 hd hp).mono ?_
    rintro e w' ⟨dv', rfl, h1, f1, c⟩
    exact ⟨T, P, L, dv', 0, rfl, rb_one h1, f1, h1.lt', .inl ⟨rfl, rfl, rfl, rfl, h1, hr⟩, c⟩
  · refine (pk T2 P2 L2 d2 hT2 hP2 h02 hd2 hp).mono ?_
    rintro e w' ⟨dv', rfl, h1, f1, c⟩
    exact ⟨T2, P2, L2, dv', 0, rfl, rb_one h1, f1, h1.lt', .inr (.inl ⟨rfl, rfl, rfl, rfl, h1, hr⟩), c⟩

set_option maxRecDepth 100000 in
set_option maxHeartbeats 4000000 in
theorem torn_go (T P T2 P2 : Nat) (L L2 : Bool) (dv dv2 : Value) (d d2 : List UInt8) (n which : Int) (w : World) (hv : RB w dv d) (hv2 : RB w dv2 d2) (hT : T < 4294967296) (hP : P < 4294967296) (hT2 : T2 < 4294967296) (hP2 : P2 < 4294967296)
    (h0 : T ≠ 0) (h02 : T2 ≠ 0) (hd : d.length ≤ 47) (hd2 : d2.length ≤ 47) (hn0 : 0 ≤ n) (hn1 : n < 256) (hw0 : 0 ≤ which) (hw1 : which < 256) (hne : T ≠ T2) :
    Calls Try.prog 8 #[.agg #[.int .u32 T, .int .u32 P, .bool L, dv], .agg #[.int .u32 T2, .int .u32 P2, .bool L2, dv2], .int .u8 n, .int .u8 which] w fun e w' => e = .returned (.bool true) ∧ Chg (fun _ => False) w w' := by
  obtain ⟨da, dc, rfl⟩ := hv.form
  obtain ⟨da2, dc2, rfl⟩ := hv2.form
  have hbp : ¬ (T : Int) = T2 := by omega
  have e2 : ((T : Int) == 0) = false := by simp; omega
  have e3 : ((T2 : Int) == 0) = false := by simp; omega
  have g1 : ¬ (47 : Int) < d.length := by omega
  have g2 : ¬ (47 : Int) < d2.length := by omega
  have HV := Lib.hid hv
  have HV2 := Lib.hid hv2
  have HNE := Lib.hid hne
  obtain ⟨w1, hw1'⟩ : ∃ w1, w1 = (w.alloc (.cells #[.int .u32 T, .int .u32 P, .bool L, .slice da d.length dc] 42)).alloc (.cells #[.int .u32 T2, .int .u32 P2, .bool L2, .slice da2 d2.length dc2] 42) := ⟨_, rfl⟩
  have c01 : Chg (fun _ => False) w w1 := by rw [hw1']; exact ((Chg.refl _ w).alloc _).alloc _
  have hb1 : w1.heap[w.heap.size]? = some (.cells #[.int .u32 T, .int .u32 P, .bool L, .slice da d.length dc] 42 (0, 0)) := by
    rw [hw1']; exact Chg.heap ((Chg.refl (fun _ => False) (w.alloc _)).alloc _) (heap_at_new w _ _ rfl) (fun h => h)
  have hb2 : w1.heap[w.heap.size + 1]? = some (.cells #[.int .u32 T2, .int .u32 P2, .bool L2, .slice da2 d2.length dc2] 42 (0, 0)) := by
    rw [hw1']; exact heap_at_new _ _ _ (by simp)
  have HB1 := Lib.hid hb1
  have HB2 := Lib.hid hb2
  have HW1 := Lib.hid hw1'
  clear hv hv2 hne hb1 hb2 hw1'
  go_enter Try.func8, Try.ntmps8
  go_wp2_with fail
  rw [← HW1.out]
  refine (lives09 _).mono ?_
  rintro e w2 ⟨rfl, c2⟩
  have q00 := Chg.cell (p := ⟨w.heap.size, 0, none⟩) (v := .int .u32 T) c2 (by rw [cell_of_heap HB1.out]; rfl) (fun h => h)
  have q01 := Chg.cell (p := ⟨w.heap.size, 1, none⟩) (v := .int .u32 P) c2 (by rw [cell_of_heap HB1.out]; rfl) (fun h => h)
  have q03 := Chg.cell (p := ⟨w.heap.size, 3, none⟩) (v := .slice da d.length dc) c2 (by rw [cell_of_heap HB1.out]; rfl) (fun h => h)
  have q10 := Chg.cell (p := ⟨w.heap.size + 1, 0, none⟩) (v := .int .u32 T2) c2 (by rw [cell_of_heap HB2.out]; rfl) (fun h => h)
  have q11 := Chg.cell (p := ⟨w.heap.size + 1, 1, none⟩) (v := .int .u32 P2) c2 (by rw [cell_of_heap HB2.out]; rfl) (fun h => h)
  have q13 := Chg.cell (p := ⟨w.heap.size + 1, 3, none⟩) (v := .slice da2 d2.length dc2) c2 (by rw [cell_of_heap HB2.out]; rfl) (fun h => h)
  go_wp2_with fail
  clear q00 q01 q03 q10 q11 q13
  have hL0 : Hid (∀ w', Chg (fun _ => False) w2.drew w' → (Instr.loadAt 42 (.pointer (some ⟨w.heap.size, 0, none⟩))).run Try.prog w' = .ok (.agg #[.int .u32 T, .int .u32 P, .bool L, .slice da d.length dc]) w') := fun w' c => load_sector w' _ _ _ _ _ _ ((c2.drew.trans c).heap HB1.out (fun h => h))
  have hL1 : Hid (∀ w', Chg (fun _ => False) w2.drew w' → (Instr.loadAt 42 (.pointer (some ⟨w.heap.size + 1, 0, none⟩))).run Try.prog w' = .ok (.agg #[.int .u32 T2, .int .u32 P2, .bool L2, .slice da2 d2.length dc2]) w') := fun w' c => load_sector w' _ _ _ _ _ _ ((c2.drew.trans c).heap HB2.out (fun h => h))
  refine wpT.begin (fun _ => False) 6 (by kernel_rfl) rfl ?_
  refine wpT.take 0 rfl (by kernel_rfl) (fun _ _ _ h => h) rfl (fun w' hw' => exec_load _ _ _ _ rfl rfl (hL0.out w' hw')) ?_
  simp only [Act.put, List.setIfInBounds_toArray, List.set_cons_zero, List.set_cons_succ]
  refine wpT.take 2 rfl (by kernel_rfl) (fun _ _ _ h => h) rfl (fun w' hw' => exec_load _ _ _ _ rfl rfl (hL1.out w' hw')) ?_
  simp only [Act.put, List.setIfInBounds_toArray, List.set_cons_zero, List.set_cons_succ]
  refine wpT.call 1 rfl (by kernel_rfl) rfl (fun K hK => ?_)
  go_wp2_with fail
  refine (bytes_any T P L _ d w2.drew hT hP hd (HV.out.kept (c01.trans c2.drew) (fun _ _ h => h))).mono ?_
  rintro e w3 ⟨rfl, c3⟩
  refine hK _ _ c3 ?_
  clear hK
  refine wpT.call 3 rfl (by kernel_rfl) rfl (fun K hK => ?_)
  go_wp2_with fail
  refine (bytes_any T2 P2 L2 _ d2 w3 hT2 hP2 hd2 (HV2.out.kept ((c01.trans c2.drew).trans c3) (fun _ _ h => h))).mono ?_
  rintro e w4 ⟨rfl, c4⟩
  refine hK _ _ c4 ?_
  clear hK
  refine wpT.take 4 rfl (by kernel_rfl) (fun _ _ _ h => h) rfl (fun w' hw' => by go_simp <;> with_reducible rfl) ?_
  simp only [Act.put, List.setIfInBounds_toArray, List.set_cons_zero, List.set_cons_succ]
  refine wpT.take 5 rfl (by kernel_rfl) (fun _ _ _ h => h) rfl (fun w' hw' => by go_simp <;> with_reducible rfl) ?_
  simp only [Act.put, List.setIfInBounds_toArray, List.set_cons_zero, List.set_cons_succ]
  refine wpT.done (by kernel_rfl) ?_
  have c14 : Chg (fun _ => False) w1 w4 := (c2.drew.trans c3).trans c4
  clear hL0 hL1 c2 c3 c4
  go_upto_if 54 with fail
  go_cut [9] from 52 to 56 (fun s wx => ∃ old : List UInt8, s = .string ⟨old.toArray⟩ ∧ Hid (old = packOf T P L d ∧ which % 3 ≠ 1 ∨ old = zb 64 ∧ which % 3 = 1) ∧ Hid (Chg (fun _ => False) w1 wx))
  case first =>
    have hmk : (Instr.makeSlice 26 (.int .i64 64) (.int .i64 64)).run Try.prog w4 = .ok (.slice (some ⟨w4.heap.size, 0, none⟩) 64 64) (w4.alloc (.cells (zeroRow 64) 5)) := make_bytes w4 64 (by omega)
    obtain ⟨row, hrow⟩ : ∃ row, row = zeroRow 64 := ⟨_, rfl⟩
    have hcv := convb (w4.alloc (.cells (zeroRow 64) 5)) _ _ (OB.made w4 64 5 (by simp only [maxLen]; omega)).rb
    rw [← hrow] at hmk hcv
    clear hrow
    by_cases h1 : which % 3 = 1
    · go_wp2_with fail
      go_meet
      exact ⟨zb 64, rfl, .inr ⟨rfl, h1⟩, c14.alloc _⟩
    · clear hmk hcv
      go_wp2_with fail
      go_meet
      exact ⟨packOf T P L d, rfl, .inl ⟨rfl, h1⟩, c14⟩
  case rest =>
    obtain ⟨old, rfl, ho, c5⟩ := hcut
    go_upto_if 59 with fail
    go_cut [10] from 57 to 61 (fun s wx => ∃ fresh : List UInt8, s = .string ⟨fresh.toArray⟩ ∧ Hid (fresh = packOf T2 P2 L2 d2 ∧ which % 3 ≠ 2 ∨ fresh = zb 64 ∧ which % 3 = 2) ∧ Hid (Chg (fun _ => False) w1 wx))
    case first =>
      have hmk : (Instr.makeSlice 26 (.int .i64 64) (.int .i64 64)).run Try.prog wc = .ok (.slice (some ⟨wc.heap.size, 0, none⟩) 64 64) (wc.alloc (.cells (zeroRow 64) 5)) := make_bytes wc 64 (by omega)
      obtain ⟨row, hrow⟩ : ∃ row, row = zeroRow 64 := ⟨_, rfl⟩
      have hcv := convb (wc.alloc (.cells (zeroRow 64) 5)) _ _ (OB.made wc 64 5 (by simp only [maxLen]; omega)).rb
      rw [← hrow] at hmk hcv
      clear hrow
      by_cases h1 : which % 3 = 2
      · go_wp2_with fail
        go_meet
        exact ⟨zb 64, rfl, .inr ⟨rfl, h1⟩, c5.out.alloc _⟩
      · clear hmk hcv
        go_wp2_with fail
        go_meet
        exact ⟨packOf T2 P2 L2 d2, rfl, .inl ⟨rfl, h1⟩, c5.out⟩
    case rest =>
      obtain ⟨fresh, rfl, hf, c6⟩ := hcut
      obtain ⟨k, hk⟩ : ∃ k : Nat, (k : Int) = n % 65 := ⟨(n % 65).toNat, by omega⟩
      have hk64 : k ≤ 64 := by omega
      have hkI : (k : Int) ≤ 64 := by omega
      have H3 := Lib.hid (torn_three hT hP hT2 hP2 h0 h02 hd hd2 (show ¬ (T = T2 ∧ P = P2) from fun h => HNE.out h.1) ho.out hf.out hk64)
      have hol : old.length = 64 := by rcases ho.out with ⟨h, _⟩ | ⟨h, _⟩ <;> rw [h]; exact pack_len hd; exact zb_len
      have hfl : fresh.length = 64 := by rcases hf.out with ⟨h, _⟩ | ⟨h, _⟩ <;> rw [h]; exact pack_len hd2; exact zb_len
      have HOL := Lib.hid hol
      have HFL := Lib.hid hfl
      have HK := Lib.hid hk
      go_wp2_with fail
      rw [← HK.out]
      clear hk hn0 hn1
      go_cut [12, 13] from 65 to 76 (fun p e wx => ∃ (B T' P' : Nat) (L' : Bool) (dv' : Value) (code : Int), p = .pointer (some ⟨B, 0, none⟩) ∧ e = .int .i64 code ∧ Hid (wx.heap[B]? = some (.cells #[.int .u32 T', .int .u32 P', .bool L', dv'] 42 (0, 0))) ∧ Hid (TornRes wx T P T2 P2 L L2 d d2 (which % 3) T' P' L' dv' code) ∧ Hid (Chg (fun _ => False) w1 wx))
      case first =>
        have STRX : Hid (ByteArray.extract ⟨fresh.toArray⟩ 0 k ++ ByteArray.extract ⟨old.toArray⟩ k 64 = ⟨(fresh.take k ++ old.drop k).toArray⟩) := str_torn fresh old k HOL.out
        have hdr : Chg (fun _ => False) wc wc.drew := (Chg.refl _ wc).drew
        refine wpT.begin (fun q => wc.heap.size ≤ q) 15 (by kernel_rfl) rfl ?_
        refine wpT.take 0 rfl (by kernel_rfl) (fun _ _ _ h => h) rfl (fun w' hw' => by go_simp <;> with_reducible rfl) ?_
        simp only [Act.put, List.setIfInBounds_toArray, List.set_cons_zero, List.set_cons_succ]
        refine wpT.take 1 rfl (by kernel_rfl) (fun _ _ _ h => h) rfl (fun w' hw' => by go_simp <;> with_reducible rfl) ?_
        simp only [Act.put, List.setIfInBounds_toArray, List.set_cons_zero, List.set_cons_succ]
        refine wpT.take 2 rfl (by kernel_rfl) (fun _ _ _ h => h) rfl (fun w' hw' => by go_simp <;> with_reducible rfl) ?_
        simp only [Act.put, List.setIfInBounds_toArray, List.set_cons_zero, List.set_cons_succ]
        refine wpT.take 3 rfl (by kernel_rfl) (fun _ _ _ h => h) rfl (fun w' hw' => by go_simp <;> with_reducible rfl) ?_
        simp only [Act.put, List.setIfInBounds_toArray, List.set_cons_zero, List.set_cons_succ]
        refine wpT.take 4 rfl (by kernel_rfl) (fun _ _ _ h => h) rfl (fun w' hw' => by go_simp <;> with_reducible rfl) ?_
        simp only [Act.put, List.setIfInBounds_toArray, List.set_cons_zero, List.set_cons_succ]
        refine wpT.take 5 rfl (by kernel_rfl) (fun _ _ _ h => h) rfl (fun w' hw' => by go_simp <;> with_reducible rfl) ?_
        simp only [Act.put, List.setIfInBounds_toArray, List.set_cons_zero, List.set_cons_succ]
        refine wpT.take 6 rfl (by kernel_rfl) (fun _ _ _ h => h) rfl (fun w' hw' => by go_simp <;> with_reducible rfl) ?_
        simp only [Act.put, List.setIfInBounds_toArray, List.set_cons_zero, List.set_cons_succ]
        refine wpT.both 7 12 rfl rfl (by kernel_rfl) rfl rfl (fun K hK => ?_) (fun K hK => ?_)
        · obtain ⟨cw, hcw⟩ : ∃ cw, cw = Lib.bytesWorld (wc.drew) 5 ⟨(fresh.take k ++ old.drop k).toArray⟩ := ⟨_, rfl⟩
          have hcr := bytesWorld_rb (wc.drew) 5 ⟨(fresh.take k ++ old.drop k).toArray⟩ (by show (fresh.take k ++ old.drop k).toArray.size ≤ _; rw [List.size_toArray, H3.out.1]; omega)
          have hcc := bytesWorld_chg (wc.drew) 5 ⟨(fresh.take k ++ old.drop k).toArray⟩
          have hcx := Lib.run_convert_string_bytes (P := Try.prog) (wc.drew) 9 26 5 ⟨(fresh.take k ++ old.drop k).toArray⟩ Try.underlying9 Try.underlying26 Try.underlying5
          rw [← hcw] at hcr hcc hcx
          rw [show (ByteArray.mk (fresh.take k ++ old.drop k).toArray).data.toList = fresh.take k ++ old.drop k from by simp] at hcr
          clear hcw
          generalize (Value.slice (some ⟨(wc.drew).heap.size, 0, none⟩) (ByteArray.size ⟨(fresh.take k ++ old.drop k).toArray⟩) (grownCap (wc.drew) (ByteArray.size ⟨(fresh.take k ++ old.drop k).toArray⟩) 0 5)) = cv at hcr hcx
          refine wp_run _ _ (exec_convert _ _ _ (.string ⟨(fresh.take k ++ old.drop k).toArray⟩) _ _ rfl (congrArg Value.string STRX.out) hcx) ?_
          refine hK _ _ (hcc.mono (fun _ _ h => h.elim)) ?_
          clear hK hcx
          simp only [Act.put, List.setIfInBounds_toArray, List.set_cons_zero, List.set_cons_succ]
          refine wpT.both 8 12 rfl rfl (by kernel_rfl) rfl rfl (fun K hK => ?_) (fun K hK => ?_)
          · go_wp2_with fail
            refine (unpack3 _ cw (fresh.take k ++ old.drop k) T P T2 P2 L L2 d d2 (which % 3) hcr hT hP hT2 hP2 h0 h02 hd hd2 H3.out.1 H3.out.2).mono ?_
            rintro e w8 ⟨T', P', L', dv', code, rfl, hone, f8, l8, hR, c8⟩
            refine hK _ _ (c8.mono (fun _ _ h => h.elim)) ?_
            clear hK
            try (simp only [Act.put, List.setIfInBounds_toArray, List.set_cons_zero, List.set_cons_succ])
            refine wpT.take 9 rfl (by kernel_rfl) (fun _ _ _ h => h) rfl (fun w' hw' => by go_simp <;> with_reducible rfl) ?_
            simp only [Act.put, List.setIfInBounds_toArray, List.set_cons_zero, List.set_cons_succ]
            refine wpT.take 10 rfl (by kernel_rfl) (fun _ _ _ h => h) rfl (fun w' hw' => by go_simp <;> with_reducible rfl) ?_
            simp only [Act.put, List.setIfInBounds_toArray, List.set_cons_zero, List.set_cons_succ]
            refine wpT.take 11 rfl (by kernel_rfl) (fun _ _ _ h => h) rfl (fun w' hw' => by go_simp <;> with_reducible rfl) ?_
            simp only [Act.put, List.setIfInBounds_toArray, List.set_cons_zero, List.set_cons_succ]
            refine wpT.call 12 rfl (by kernel_rfl) rfl (fun K hK => ?_)
            obtain ⟨wa, hwa⟩ : ∃ wa, wa = (w8).alloc (.cells #[.int .u32 0, .int .u32 0, .bool false, .slice none 0 0] 42) := ⟨_, rfl⟩
            have hA : wa.heap[(w8).heap.size]? = some (.cells #[.int .u32 0, .int .u32 0, .bool false, .slice none 0 0] 42 (0, 0)) := by rw [hwa]; exact heap_at_new _ _ _ rfl
            have cA : Chg (fun _ => False) (w8) wa := by rw [hwa]; exact (Chg.refl _ _).alloc _
            refine wp_alloc 42 rfl (.agg #[.int .u32 0, .int .u32 0, .bool false, .slice none 0 0]) 4 (by kernel_rfl) wa (w8).heap.size rfl hwa ?_
            refine hK _ _ (cA.mono (fun _ _ h => h.elim)) ?_
            clear hwa hK
            try (simp only [Act.put, List.setIfInBounds_toArray, List.set_cons_zero, List.set_cons_succ])
            have hA8 := hA
            have q0 : wa.cell? ⟨w8.heap.size, 0, none⟩ = some (.int .u32 0) := by rw [cell_of_heap hA8]; rfl
            have q1 : wa.cell? ⟨w8.heap.size, 1, none⟩ = some (.int .u32 0) := by rw [cell_of_heap hA8]; rfl
            have q2 : wa.cell? ⟨w8.heap.size, 2, none⟩ = some (.bool false) := by rw [cell_of_heap hA8]; rfl
            have q3 : wa.cell? ⟨w8.heap.size, 3, none⟩ = some (.slice none 0 0) := by rw [cell_of_heap hA8]; rfl
            have qf : ∀ i, wa.frozen? ⟨w8.heap.size, i, none⟩ = false := frozen_of_heap hA8
            obtain ⟨s1, s2⟩ := set4 (.int .u32 T') (.int .u32 P') (.bool L') dv' hA8 rfl
            have ONE : Hid (dv'.oneCell' = true) := hone
            have S1 := Lib.hid s1
            have S2 := Lib.hid s2
            have A8 := Lib.hid hA8
            clear s1 s2 hA8
            refine wpT.call 13 rfl (by kernel_rfl) rfl (fun K hK => ?_)
            refine wp_skipped _ (exec_store _ _ _ _ _ _ rfl rfl rfl (store_sector _ _ _ _ _ _ _ _ A8.out rfl ONE.out)) ?_
            refine hK _ _ (S2.out.mono (fun q _ h => by subst h; exact (show wc.heap.size ≤ w8.heap.size from Nat.le_trans hcc.size c8.size))) ?_
            clear hK
            try (simp only [Act.put])
            refine wpT.take 14 rfl (by kernel_rfl) (fun _ _ _ h => h) rfl (fun w' hw' => by go_simp <;> with_reducible rfl) ?_
            simp only [Act.put, List.setIfInBounds_toArray, List.set_cons_zero, List.set_cons_succ]
            refine wpT.done (by kernel_rfl) ?_
            go_wp2_with fail
            go_meet
            refine ⟨_, T', P', L', dv', code, rfl, rfl, S1.out, torn_kept (torn_kept hR cA (fun _ _ h => h)) S2.out (fun q hq h => ?_), c6.out.new ((((((hdr.trans hcc).trans c8).trans cA)).mono (fun _ _ h => h.elim)).trans (S2.out.mono (fun q _ h => by subst h; exact (show wc.heap.size ≤ w8.heap.size from Nat.le_trans hcc.size c8.size)))) (fun q hq => Nat.le_trans c6.out.size hq)⟩
            have := l8 q hq; omega
          · obtain ⟨wa, hwa⟩ : ∃ wa, wa = (cw).alloc (.cells #[.int .u32 0, .int .u32 0, .bool false, .slice none 0 0] 42) := ⟨_, rfl⟩
            have hA : wa.heap[(cw).heap.size]? = some (.cells #[.int .u32 0, .int .u32 0, .bool false, .slice none 0 0] 42 (0, 0)) := by rw [hwa]; exact heap_at_new _ _ _ rfl
            have cA : Chg (fun _ => False) (cw) wa := by rw [hwa]; exact (Chg.refl _ _).alloc _
            refine wp_alloc 42 rfl (.agg #[.int .u32 0, .int .u32 0, .bool false, .slice none 0 0]) 4 (by kernel_rfl) wa (cw).heap.size rfl hwa ?_
            refine hK _ _ (cA.mono (fun _ _ h => h.elim)) ?_
            clear hwa hK
            try (simp only [Act.put, List.setIfInBounds_toArray, List.set_cons_zero, List.set_cons_succ])
            have hcr := hcr.kept cA (fun _ _ h => h)
            refine wpT.call 8 rfl (by kernel_rfl) rfl (fun K hK => ?_)
            go_wp2_with fail
            refine (unpack3 _ wa (fresh.take k ++ old.drop k) T P T2 P2 L L2 d d2 (which % 3) hcr hT hP hT2 hP2 h0 h02 hd hd2 H3.out.1 H3.out.2).mono ?_
            rintro e w8 ⟨T', P', L', dv', code, rfl, hone, f8, l8, hR, c8⟩
            refine hK _ _ (c8.mono (fun _ _ h => h.elim)) ?_
            clear hK
            try (simp only [Act.put, List.setIfInBounds_toArray, List.set_cons_zero, List.set_cons_succ])
            refine wpT.take 9 rfl (by kernel_rfl) (fun _ _ _ h => h) rfl (fun w' hw' => by go_simp <;> with_reducible rfl) ?_
            simp only [Act.put, List.setIfInBounds_toArray, List.set_cons_zero, List.set_cons_succ]
            refine wpT.take 10 rfl (by kernel_rfl) (fun _ _ _ h => h) rfl (fun w' hw' => by go_simp <;> with_reducible rfl) ?_
            simp only [Act.put, List.setIfInBounds_toArray, List.set_cons_zero, List.set_cons_succ]
            refine wpT.take 11 rfl (by kernel_rfl) (fun _ _ _ h => h) rfl (fun w' hw' => by go_simp <;> with_reducible rfl) ?_
            simp only [Act.put, List.setIfInBounds_toArray, List.set_cons_zero, List.set_cons_succ]
            have hA8 := c8.heap hA (fun h => h)
            have q0 : w8.cell? ⟨cw.heap.size, 0, none⟩ = some (.int .u32 0) := by rw [cell_of_heap hA8]; rfl
            have q1 : w8.cell? ⟨cw.heap.size, 1, none⟩ = some (.int .u32 0) := by rw [cell_of_heap hA8]; rfl
            have q2 : w8.cell? ⟨cw.heap.size, 2, none⟩ = some (.bool false) := by rw [cell_of_heap hA8]; rfl
            have q3 : w8.cell? ⟨cw.heap.size, 3, none⟩ = some (.slice none 0 0) := by rw [cell_of_heap hA8]; rfl
            have qf : ∀ i, w8.frozen? ⟨cw.heap.size, i, none⟩ = false := frozen_of_heap hA8
            obtain ⟨s1, s2⟩ := set4 (.int .u32 T') (.int .u32 P') (.bool L') dv' hA8 rfl
            have ONE : Hid (dv'.oneCell' = true) := hone
            have S1 := Lib.hid s1
            have S2 := Lib.hid s2
            have A8 := Lib.hid hA8
            clear s1 s2 hA8
            refine wpT.call 13 rfl (by kernel_rfl) rfl (fun K hK => ?_)
            refine wp_skipped _ (exec_store _ _ _ _ _ _ rfl rfl rfl (store_sector _ _ _ _ _ _ _ _ A8.out rfl ONE.out)) ?_
            refine hK _ _ (S2.out.mono (fun q _ h => by subst h; exact (show wc.heap.size ≤ cw.heap.size from hcc.size))) ?_
            clear hK
            try (simp only [Act.put])
            refine wpT.take 14 rfl (by kernel_rfl) (fun _ _ _ h => h) rfl (fun w' hw' => by go_simp <;> with_reducible rfl) ?_
            simp only [Act.put, List.setIfInBounds_toArray, List.set_cons_zero, List.set_cons_succ]
            refine wpT.done (by kernel_rfl) ?_
            go_wp2_with fail
            go_meet
            refine ⟨_, T', P', L', dv', code, rfl, rfl, S1.out, torn_kept (torn_kept hR (Chg.refl (fun _ => False) w8) (fun _ _ h => h)) S2.out (fun q hq h => ?_), c6.out.new ((((((hdr.trans hcc).trans cA).trans c8)).mono (fun _ _ h => h.elim)).trans (S2.out.mono (fun q _ h => by subst h; exact (show wc.heap.size ≤ cw.heap.size from hcc.size)))) (fun q hq => Nat.le_trans c6.out.size hq)⟩
            have := f8 q hq; have := (Array.getElem?_eq_some_iff.1 hA).1; omega
        · obtain ⟨wa, hwa⟩ : ∃ wa, wa = (wc.drew).alloc (.cells #[.int .u32 0, .int .u32 0, .bool false, .slice none 0 0] 42) := ⟨_, rfl⟩
          have hA : wa.heap[(wc.drew).heap.size]? = some (.cells #[.int .u32 0, .int .u32 0, .bool false, .slice none 0 0] 42 (0, 0)) := by rw [hwa]; exact heap_at_new _ _ _ rfl
          have cA : Chg (fun _ => False) (wc.drew) wa := by rw [hwa]; exact (Chg.refl _ _).alloc _
          refine wp_alloc 42 rfl (.agg #[.int .u32 0, .int .u32 0, .bool false, .slice none 0 0]) 4 (by kernel_rfl) wa (wc.drew).heap.size rfl hwa ?_
          refine hK _ _ (cA.mono (fun _ _ h => h.elim)) ?_
          clear hwa hK
          try (simp only [Act.put, List.setIfInBounds_toArray, List.set_cons_zero, List.set_cons_succ])
          refine wpT.call 7 rfl (by kernel_rfl) rfl (fun K hK => ?_)
          obtain ⟨cw, hcw⟩ : ∃ cw, cw = Lib.bytesWorld (wa) 5 ⟨(fresh.take k ++ old.drop k).toArray⟩ := ⟨_, rfl⟩
          have hcr := bytesWorld_rb (wa) 5 ⟨(fresh.take k ++ old.drop k).toArray⟩ (by show (fresh.take k ++ old.drop k).toArray.size ≤ _; rw [List.size_toArray, H3.out.1]; omega)
          have hcc := bytesWorld_chg (wa) 5 ⟨(fresh.take k ++ old.drop k).toArray⟩
          have hcx := Lib.run_convert_string_bytes (P := Try.prog) (wa) 9 26 5 ⟨(fresh.take k ++ old.drop k).toArray⟩ Try.underlying9 Try.underlying26 Try.underlying5
          rw [← hcw] at hcr hcc hcx
          rw [show (ByteArray.mk (fresh.take k ++ old.drop k).toArray).data.toList = fresh.take k ++ old.drop k from by simp] at hcr
          clear hcw
          generalize (Value.slice (some ⟨(wa).heap.size, 0, none⟩) (ByteArray.size ⟨(fresh.take k ++ old.drop k).toArray⟩) (grownCap (wa) (ByteArray.size ⟨(fresh.take k ++ old.drop k).toArray⟩) 0 5)) = cv at hcr hcx
          refine wp_run _ _ (exec_convert _ _ _ (.string ⟨(fresh.take k ++ old.drop k).toArray⟩) _ _ rfl (congrArg Value.string STRX.out) hcx) ?_
          refine hK _ _ (hcc.mono (fun _ _ h => h.elim)) ?_
          clear hK hcx
          simp only [Act.put, List.setIfInBounds_toArray, List.set_cons_zero, List.set_cons_succ]
          refine wpT.call 8 rfl (by kernel_rfl) rfl (fun K hK => ?_)
          go_wp2_with fail
          refine (unpack3 _ cw (fresh.take k ++ old.drop k) T P T2 P2 L L2 d d2 (which % 3) hcr hT hP hT2 hP2 h0 h02 hd hd2 H3.out.1 H3.out.2).mono ?_
          rintro e w8 ⟨T', P', L', dv', code, rfl, hone, f8, l8, hR, c8⟩
          refine hK _ _ (c8.mono (fun _ _ h => h.elim)) ?_
          clear hK
          try (simp only [Act.put, List.setIfInBounds_toArray, List.set_cons_zero, List.set_cons_succ])
          refine wpT.take 9 rfl (by kernel_rfl) (fun _ _ _ h => h) rfl (fun w' hw' => by go_simp <;> with_reducible rfl) ?_
          simp only [Act.put, List.setIfInBounds_toArray, List.set_cons_zero, List.set_cons_succ]
          refine wpT.take 10 rfl (by kernel_rfl) (fun _ _ _ h => h) rfl (fun w' hw' => by go_simp <;> with_reducible rfl) ?_
          simp only [Act.put, List.setIfInBounds_toArray, List.set_cons_zero, List.set_cons_succ]
          refine wpT.take 11 rfl (by kernel_rfl) (fun _ _ _ h => h) rfl (fun w' hw' => by go_simp <;> with_reducible rfl) ?_
          simp only [Act.put, List.setIfInBounds_toArray, List.set_cons_zero, List.set_cons_succ]
          have hA8 := (hcc.trans c8).heap hA (fun h => h)
          have q0 : w8.cell? ⟨wc.drew.heap.size, 0, none⟩ = some (.int .u32 0) := by rw [cell_of_heap hA8]; rfl
          have q1 : w8.cell? ⟨wc.drew.heap.size, 1, none⟩ = some (.int .u32 0) := by rw [cell_of_heap hA8]; rfl
          have q2 : w8.cell? ⟨wc.drew.heap.size, 2, none⟩ = some (.bool false) := by rw [cell_of_heap hA8]; rfl
          have q3 : w8.cell? ⟨wc.drew.heap.size, 3, none⟩ = some (.slice none 0 0) := by rw [cell_of_heap hA8]; rfl
          have qf : ∀ i, w8.frozen? ⟨wc.drew.heap.size, i, none⟩ = false := frozen_of_heap hA8
          obtain ⟨s1, s2⟩ := set4 (.int .u32 T') (.int .u32 P') (.bool L') dv' hA8 rfl
          have ONE : Hid (dv'.oneCell' = true) := hone
          have S1 := Lib.hid s1
          have S2 := Lib.hid s2
          have A8 := Lib.hid hA8
          clear s1 s2 hA8
          refine wpT.call 13 rfl (by kernel_rfl) rfl (fun K hK => ?_)
          refine wp_skipped _ (exec_store _ _ _ _ _ _ rfl rfl rfl (store_sector _ _ _ _ _ _ _ _ A8.out rfl ONE.out)) ?_
          refine hK _ _ (S2.out.mono (fun q _ h => by subst h; exact (show wc.heap.size ≤ wc.drew.heap.size from Nat.le_refl _))) ?_
          clear hK
          try (simp only [Act.put])
          refine wpT.take 14 rfl (by kernel_rfl) (fun _ _ _ h => h) rfl (fun w' hw' => by go_simp <;> with_reducible rfl) ?_
          simp only [Act.put, List.setIfInBounds_toArray, List.set_cons_zero, List.set_cons_succ]
          refine wpT.done (by kernel_rfl) ?_
          go_wp2_with fail
          go_meet
          refine ⟨_, T', P', L', dv', code, rfl, rfl, S1.out, torn_kept (torn_kept hR (Chg.refl (fun _ => False) w8) (fun _ _ h => h)) S2.out (fun q hq h => ?_), c6.out.new ((((((hdr.trans cA).trans hcc).trans c8)).mono (fun _ _ h => h.elim)).trans (S2.out.mono (fun q _ h => by subst h; exact (show wc.heap.size ≤ wc.drew.heap.size from Nat.le_refl _)))) (fun q hq => Nat.le_trans c6.out.size hq)⟩
          have := f8 q hq; have := (Array.getElem?_eq_some_iff.1 hA).1; have := hcc.size; have h0 : wc.drew.heap.size = wc.heap.size := rfl; omega
      case rest =>
        obtain ⟨B, T', P', L', dv', code, rfl, rfl, hB, hR, hC⟩ := hcut
        have cW : Chg (fun _ => False) w wc := c01.trans hC.out
        rcases hR.out with ⟨rfl, rfl, rfl, rfl, hd', hr⟩ | ⟨rfl, rfl, rfl, rfl, hd', hr⟩ | rfl | ⟨rfl, hr⟩
        · have hsame := same_any T P T P L L dv' _ d d wc hd' (HV.out.kept cW (fun _ _ h => h))
          rw [show decide (T = T ∧ P = P ∧ L = L ∧ d = d) = true from decide_eq_true ⟨rfl, rfl, rfl, rfl⟩] at hsame
          have HS := Lib.hid hsame
          have b0 : wc.cell? ⟨B, 0, none⟩ = some (.int .u32 T) := by rw [cell_of_heap hB.out]; rfl
          have b1 : wc.cell? ⟨B, 1, none⟩ = some (.int .u32 P) := by rw [cell_of_heap hB.out]; rfl
          have b2 : wc.cell? ⟨B, 2, none⟩ = some (.bool L) := by rw [cell_of_heap hB.out]; rfl
          have b3 : wc.cell? ⟨B, 3, none⟩ = some dv' := by rw [cell_of_heap hB.out]; rfl
          have a0 := Chg.cell (p := ⟨w.heap.size, 0, none⟩) (v := .int .u32 T) hC.out (by rw [cell_of_heap HB1.out]; rfl) (fun h => h)
          have a1 := Chg.cell (p := ⟨w.heap.size, 1, none⟩) (v := .int .u32 P) hC.out (by rw [cell_of_heap HB1.out]; rfl) (fun h => h)
          have a2 := Chg.cell (p := ⟨w.heap.size, 2, none⟩) (v := .bool L) hC.out (by rw [cell_of_heap HB1.out]; rfl) (fun h => h)
          have a3 := Chg.cell (p := ⟨w.heap.size, 3, none⟩) (v := .slice da d.length dc) hC.out (by rw [cell_of_heap HB1.out]; rfl) (fun h => h)
          have hrb : (which % 3 != 1) = true := by simpa using hr
          clear hd' hr hsame hR
          go_wp2_with (first | (go_at_call 36; refine HS.out.mono ?_; rintro e w9 ⟨rfl, c9⟩))
          go_ret
          exact ⟨rfl, cW.trans c9⟩
        · have hF : decide (T2 = T ∧ P2 = P ∧ L2 = L ∧ d2 = d) = false := decide_eq_false (fun h => (show ¬ (T = T2 ∧ P = P2) from fun h => HNE.out h.1) ⟨h.1.symm, h.2.1.symm⟩)
          have hsame := same_any T2 P2 T P L2 L dv' _ d2 d wc hd' (HV.out.kept cW (fun _ _ h => h))
          rw [hF] at hsame
          have HS := Lib.hid hsame
          have HD := Lib.hid hd'
          have b0 : wc.cell? ⟨B, 0, none⟩ = some (.int .u32 T2) := by rw [cell_of_heap hB.out]; rfl
          have b1 : wc.cell? ⟨B, 1, none⟩ = some (.int .u32 P2) := by rw [cell_of_heap hB.out]; rfl
          have b2 : wc.cell? ⟨B, 2, none⟩ = some (.bool L2) := by rw [cell_of_heap hB.out]; rfl
          have b3 : wc.cell? ⟨B, 3, none⟩ = some dv' := by rw [cell_of_heap hB.out]; rfl
          have a0 := Chg.cell (p := ⟨w.heap.size, 0, none⟩) (v := .int .u32 T) hC.out (by rw [cell_of_heap HB1.out]; rfl) (fun h => h)
          have a1 := Chg.cell (p := ⟨w.heap.size, 1, none⟩) (v := .int .u32 P) hC.out (by rw [cell_of_heap HB1.out]; rfl) (fun h => h)
          have a2 := Chg.cell (p := ⟨w.heap.size, 2, none⟩) (v := .bool L) hC.out (by rw [cell_of_heap HB1.out]; rfl) (fun h => h)
          have a3 := Chg.cell (p := ⟨w.heap.size, 3, none⟩) (v := .slice da d.length dc) hC.out (by rw [cell_of_heap HB1.out]; rfl) (fun h => h)
          have hrb : (which % 3 != 2) = true := by simpa using hr
          clear hd' hr hsame hR hF
          go_wp2_with fail
          refine HS.out.mono ?_
          rintro e w9 ⟨rfl, c9⟩
          have k9 := hC.out.trans c9
          have b0 := c9.cell b0 (fun h => h)
          have b1 := c9.cell b1 (fun h => h)
          have b2 := c9.cell b2 (fun h => h)
          have b3 := c9.cell b3 (fun h => h)
          have a0 := Chg.cell (p := ⟨w.heap.size + 1, 0, none⟩) (v := .int .u32 T2) k9 (by rw [cell_of_heap HB2.out]; rfl) (fun h => h)
          have a1 := Chg.cell (p := ⟨w.heap.size + 1, 1, none⟩) (v := .int .u32 P2) k9 (by rw [cell_of_heap HB2.out]; rfl) (fun h => h)
          have a2 := Chg.cell (p := ⟨w.heap.size + 1, 2, none⟩) (v := .bool L2) k9 (by rw [cell_of_heap HB2.out]; rfl) (fun h => h)
          have a3 := Chg.cell (p := ⟨w.heap.size + 1, 3, none⟩) (v := .slice da2 d2.length dc2) k9 (by rw [cell_of_heap HB2.out]; rfl) (fun h => h)
          have hsame := same_any T2 P2 T2 P2 L2 L2 dv' _ d2 d2 w9 (HD.out.kept c9 (fun _ _ h => h)) (HV2.out.kept (cW.trans c9) (fun _ _ h => h))
          rw [show decide (T2 = T2 ∧ P2 = P2 ∧ L2 = L2 ∧ d2 = d2) = true from decide_eq_true ⟨rfl, rfl, rfl, rfl⟩] at hsame
          have HS2 := Lib.hid hsame
          clear hsame HS
          go_wp2_with fail
          refine HS2.out.mono ?_
          rintro e w10 ⟨rfl, c10⟩
          go_wp2_with fail
          go_ret
          exact ⟨rfl, (cW.trans c9).trans c10⟩
        · clear hR
          go_wp2_with fail
          go_ret
          exact ⟨rfl, cW⟩
        · have hrb : (which % 3 != 0) = true := by simpa using hr
          clear hR hr
          go_wp2_with fail
          go_ret
          exact ⟨rfl, cW⟩
end Go.Proofs.Ytncgeeaifacapaa
