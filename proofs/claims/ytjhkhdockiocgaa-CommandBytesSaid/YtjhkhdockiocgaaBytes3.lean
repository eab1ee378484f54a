/- Contracts: catacomblaw26.bytes, of points, and of any kind. -/
import Derived.Test.YtjhkhdockiocgaaBytes26
namespace Go.Proofs.Ytjhkhdockiocgaa
open Go.RowKit Go.Cat

theorem exec_build2 {o : Oper} {a : Act} {w : World} (x y : Operand) (ho : o.op = .buildSlice 33 2 #[(0, x), (1, y)]) (p q : Int) (hx : a.eval x = .int .u8 p) (hy : a.eval y = .int .u8 q) : (execOp a.eval o).run Try.prog w = .ok (.value (.slice (some ⟨w.heap.size, 0, none⟩) 2 2)) (w.alloc (.cells #[.int .u8 p, .int .u8 q] 5)) := by
  unfold execOp
  rw [ho]
  simp only [List.map_toArray, List.map_cons, List.map_nil, hx, hy]
  go_simp
theorem penc_snoc (ps : List Pnt) (k : Nat) (p : Pnt) (h : ps[k]? = some p) : penc (ps.take (k + 1)) = penc (ps.take k) ++ p.enc := by
  rw [List.take_add_one, h, Option.toList_some]; simp [penc]

set_option maxRecDepth 100000 in
set_option maxHeartbeats 2000000 in
theorem bytes_3 (x : Cmd) (ps : List Pnt) (w : World) (hv : Reads w 2 x.pv ps.length (ps.flatMap Pnt.cells)) (hk : x.kind = 3) (h_tenant : x.tenant.length ≤ 255) (h_series : x.series.length ≤ 255) (hn : ps.length ≤ 255) :
    Calls Try.prog 20 #[.agg #[.int .i64 x.kind, .string ⟨x.tenant.toArray⟩, .string ⟨x.series.toArray⟩, .string ⟨x.name.toArray⟩, x.pv, .int .i64 x.rlo, .int .i64 x.rhi, .int .i64 x.praw, .int .i64 x.pmid, .int .i64 x.plong, .string ⟨x.hname.toArray⟩, .string ⟨x.hser.toArray⟩, .int .i64 x.hlo, .int .i64 x.hhi, .int .i64 x.bytes, .int .i64 x.count, .int .i64 x.at_]] w fun e w' => e = .returned (.string ⟨(be 3 1 ++ (be x.tenant.length 2 ++ x.tenant) ++ (be x.series.length 2 ++ x.series) ++ be ps.length 2 ++ penc ps).toArray⟩) ∧ Chg (fun _ => False) w w' := by
  obtain ⟨n, hnn⟩ : ∃ n, n = ps.length := ⟨_, rfl⟩
  rw [← hnn] at hv hn ⊢
  obtain ⟨va, vc, hpv⟩ := hv.form
  have HPV : Hid (x.cells[4]? = some (.slice va n vc)) := by show _ = _; rw [← hpv]; rfl
  obtain ⟨w0, hw0⟩ : ∃ w0, w0 = w.alloc (.cells #[.int .i64 x.kind, .string ⟨x.tenant.toArray⟩, .string ⟨x.series.toArray⟩, .string ⟨x.name.toArray⟩, x.pv, .int .i64 x.rlo, .int .i64 x.rhi, .int .i64 x.praw, .int .i64 x.pmid, .int .i64 x.plong, .string ⟨x.hname.toArray⟩, .string ⟨x.hser.toArray⟩, .int .i64 x.hlo, .int .i64 x.hhi, .int .i64 x.bytes, .int .i64 x.count, .int .i64 x.at_] 30) := ⟨_, rfl⟩
  have c0 : Chg (fun _ => False) w w0 := by rw [hw0]; exact (Chg.refl _ w).alloc _
  have HX0 : Hid (w0.heap[w.heap.size]? = some (.cells x.cells.toArray 30 (0, 0))) := by rw [hw0]; exact heap_at_new _ _ _ rfl
  have q0 : w0.cell? ⟨w.heap.size, 0, none⟩ = some (.int .i64 3) := cell_cmd HX0.out 0 _ (by rw [← hk]; rfl)
  have hcv := convb (w0.alloc (.cells (bs (be 3 1)).toArray 5)) _ _ (rb_lits w0 (be 3 1) 5 (by simp))
  have e2 : (bs (be 3 1)).toArray = #[.int .u8 3] := by simp [be, bs]
  rw [e2, be_length] at hcv
  obtain ⟨KK, hK⟩ : ∃ K, K = be 3 1 := ⟨_, rfl⟩
  have hKl : KK.length = 1 := by rw [hK]; rfl
  rw [← hK] at hcv ⊢
  obtain ⟨w1, hw1⟩ : ∃ w1, w1 = w0.alloc (.cells #[.int .u8 3] 5) := ⟨_, rfl⟩
  have c01 : Chg (fun _ => False) w0 w1 := by rw [hw1]; exact (Chg.refl _ w0).alloc _
  have HX1 := Lib.hid (c01.heap HX0.out (fun h => h))
  have q1 : w1.cell? ⟨w.heap.size, 0, none⟩ = some (.int .i64 3) := c01.cell q0 (fun h => h)
  have G1 : Hid (Chg (fun _ => False) w w1) := c0.trans c01
  have HW0 := Lib.hid hw0
  have HW1 := Lib.hid hw1
  have HV := Lib.hid (hpv ▸ hv)
  have HN := Lib.hid hnn
  have b2 : Hid ((bs (be n 2)).toArray = #[.int .u8 ((n : Int) / 256), .int .u8 ((n : Int) % 256)]) := by
    show _ = _
    rw [be_two]
    simp only [bs, List.map_cons, List.map_nil]
    rw [toNat_ofNat_lt _ (by omega), toNat_ofNat_lt _ (by omega)]
    have h1 : ((n / 256 % 256 : Nat) : Int) = (n : Int) / 256 := by omega
    have h2 : ((n % 256 : Nat) : Int) = (n : Int) % 256 := by omega
    rw [h1, h2]
  have WQ : Hid (IntKind.u8.wrap ((n : Int) / 256) = (n : Int) / 256) := by show _ = _; rw [IntKind.wrap_u8]; omega
  have WM : Hid (IntKind.u8.wrap ((n : Int) % 256) = (n : Int) % 256) := by show _ = _; rw [IntKind.wrap_u8]; omega
  have WI : Hid (IntKind.i64.wrap ((n : Int) / 256) = (n : Int) / 256) := by show _ = _; rw [IntKind.wrap_i64]; omega
  have WT : Hid ((n : Int).tmod 256 = (n : Int) % 256) := by show _ = _; exact Int.tmod_eq_emod_of_nonneg (by omega)
  clear hw0 hw1 e2 hK hk c0 c01 hpv hv hnn
  go_enter Try.func20, Try.ntmps20
  go_upto_region 1 with fail
  rw [← HW0.out]
  go_upto_region 2 with fail
  rw [← HW1.out]
  clear HW0 HW1 hcv q0
  go_upto_region 9 with fail
  go_cut [4] from 39 to 61 (fun s wx => s = .string ⟨(KK ++ (be x.tenant.length 2 ++ x.tenant) ++ (be x.series.length 2 ++ x.series) ++ be n 2).toArray⟩ ∧ Hid (wx.heap[w.heap.size]? = some (.cells x.cells.toArray 30 (0, 0))) ∧ Hid (Chg (fun _ => False) w wx))
  case first =>
    refine wpT.begin (fun _ => False) 23 (by kernel_rfl) rfl ?_
    refine wpT.take 0 rfl (by kernel_rfl) (fun _ _ _ h => h) rfl (fun w' hw' => by go_simp <;> with_reducible rfl) ?_
    simp only [Act.put, List.setIfInBounds_toArray, List.set_cons_zero, List.set_cons_succ]
    refine wpT.take 1 rfl (by kernel_rfl) (fun _ _ _ h => h) rfl (fun w' hw' => by go_simp <;> with_reducible rfl) ?_
    simp only [Act.put, List.setIfInBounds_toArray, List.set_cons_zero, List.set_cons_succ]
    refine wpT.ld 2 rfl (by kernel_rfl) (fun _ _ _ _ h => h) rfl _ _ rfl (by kernel_rfl) _ rfl _ (by rw [World.cell?_drew]; exact cell_cmd HX1.out 1 _ rfl) (fun h => h) ?_
    simp only [Act.put, List.setIfInBounds_toArray, List.set_cons_zero, List.set_cons_succ]
    refine wpT.take 5 rfl (by kernel_rfl) (fun _ _ _ h => h) rfl (fun w' hw' => by go_simp <;> with_reducible rfl) ?_
    simp only [Act.put, List.setIfInBounds_toArray, List.set_cons_zero, List.set_cons_succ]
    refine wpT.ld 6 rfl (by kernel_rfl) (fun _ _ _ _ h => h) rfl _ _ rfl (by kernel_rfl) _ rfl _ (by rw [World.cell?_drew]; exact cell_cmd HX1.out 2 _ rfl) (fun h => h) ?_
    simp only [Act.put, List.setIfInBounds_toArray, List.set_cons_zero, List.set_cons_succ]
    refine wpT.take 9 rfl (by kernel_rfl) (fun _ _ _ h => h) rfl (fun w' hw' => by go_simp <;> with_reducible rfl) ?_
    simp only [Act.put, List.setIfInBounds_toArray, List.set_cons_zero, List.set_cons_succ]
    refine wpT.ld 10 rfl (by kernel_rfl) (fun _ _ _ _ h => h) rfl _ _ rfl (by kernel_rfl) _ rfl _ (by rw [World.cell?_drew]; exact cell_cmd HX1.out 4 _ HPV.out) (fun h => h) ?_
    simp only [Act.put, List.setIfInBounds_toArray, List.set_cons_zero, List.set_cons_succ]
    refine wpT.take 11 rfl (by kernel_rfl) (fun _ _ _ h => h) rfl (fun w' hw' => by go_simp <;> with_reducible rfl) ?_
    simp only [Act.put, List.setIfInBounds_toArray, List.set_cons_zero, List.set_cons_succ]
    refine wpT.take 12 rfl (by kernel_rfl) (fun _ _ _ h => h) rfl (fun w' hw' => by have h1 := WI.out; have h2 := WT.out; go_simp <;> with_reducible rfl) ?_
    simp only [Act.put, List.setIfInBounds_toArray, List.set_cons_zero, List.set_cons_succ]
    refine wpT.take 13 rfl (by kernel_rfl) (fun _ _ _ h => h) rfl (fun w' hw' => by have h1 := WQ.out; have h2 := WM.out; go_simp <;> with_reducible rfl) ?_
    simp only [Act.put, List.setIfInBounds_toArray, List.set_cons_zero, List.set_cons_succ]
    refine wpT.take 14 rfl (by kernel_rfl) (fun _ _ _ h => h) rfl (fun w' hw' => by go_simp <;> with_reducible rfl) ?_
    simp only [Act.put, List.setIfInBounds_toArray, List.set_cons_zero, List.set_cons_succ]
    refine wpT.ld 15 rfl (by kernel_rfl) (fun _ _ _ _ h => h) rfl _ _ rfl (by kernel_rfl) _ rfl _ (by rw [World.cell?_drew]; exact cell_cmd HX1.out 4 _ HPV.out) (fun h => h) ?_
    simp only [Act.put, List.setIfInBounds_toArray, List.set_cons_zero, List.set_cons_succ]
    refine wpT.take 16 rfl (by kernel_rfl) (fun _ _ _ h => h) rfl (fun w' hw' => by go_simp <;> with_reducible rfl) ?_
    simp only [Act.put, List.setIfInBounds_toArray, List.set_cons_zero, List.set_cons_succ]
    refine wpT.take 17 rfl (by kernel_rfl) (fun _ _ _ h => h) rfl (fun w' hw' => by have h1 := WI.out; have h2 := WT.out; go_simp <;> with_reducible rfl) ?_
    simp only [Act.put, List.setIfInBounds_toArray, List.set_cons_zero, List.set_cons_succ]
    refine wpT.take 18 rfl (by kernel_rfl) (fun _ _ _ h => h) rfl (fun w' hw' => by have h1 := WQ.out; have h2 := WM.out; go_simp <;> with_reducible rfl) ?_
    simp only [Act.put, List.setIfInBounds_toArray, List.set_cons_zero, List.set_cons_succ]
    refine wpT.both 3 19 rfl rfl (by kernel_rfl) rfl rfl (fun K hK => ?_) (fun K hK => ?_)
    · go_wp2_with fail
      refine (ref_text x.tenant _ (by omega)).mono ?_
      rintro e wxa ⟨rfl, cst⟩
      have HX_wxa := Lib.hid (((Chg.refl (fun _ => False) w1).drew.trans cst).heap HX1.out (fun h => h))
      have G_wxa : Hid (Chg (fun _ => False) w wxa) := G1.out.trans ((Chg.refl (fun _ => False) w1).drew.trans cst)
      refine hK _ _ cst ?_
      clear hK cst
      try (simp only [Act.put, List.setIfInBounds_toArray, List.set_cons_zero, List.set_cons_succ])
      refine wpT.take 4 rfl (by kernel_rfl) (fun _ _ _ h => h) rfl (fun w' hw' => exec_cat _ _ _ rfl KK (be x.tenant.length 2 ++ x.tenant) rfl rfl (by simp; omega)) ?_
      simp only [Act.put, List.setIfInBounds_toArray, List.set_cons_zero, List.set_cons_succ]
      refine wpT.both 7 19 rfl rfl (by kernel_rfl) rfl rfl (fun K hK => ?_) (fun K hK => ?_)
      · go_wp2_with fail
        refine (ref_text x.series _ (by omega)).mono ?_
        rintro e wxaa ⟨rfl, cst⟩
        have HX_wxaa := Lib.hid (cst.heap HX_wxa.out (fun h => h))
        have G_wxaa : Hid (Chg (fun _ => False) w wxaa) := G_wxa.out.trans cst
        refine hK _ _ cst ?_
        clear hK cst
        try (simp only [Act.put, List.setIfInBounds_toArray, List.set_cons_zero, List.set_cons_succ])
        refine wpT.take 8 rfl (by kernel_rfl) (fun _ _ _ h => h) rfl (fun w' hw' => exec_cat _ _ _ rfl (KK ++ (be x.tenant.length 2 ++ x.tenant)) (be x.series.length 2 ++ x.series) rfl rfl (by simp; omega)) ?_
        simp only [Act.put, List.setIfInBounds_toArray, List.set_cons_zero, List.set_cons_succ]
        refine wpT.call 19 rfl (by kernel_rfl) rfl (fun K hK => ?_)
        obtain ⟨wxaaa, hww⟩ : ∃ q, q = wxaa.alloc (.cells #[.int .u8 ((n : Int) / 256), .int .u8 ((n : Int) % 256)] 5) := ⟨_, rfl⟩
        have RBN : Hid (RB wxaaa (.slice (some ⟨wxaa.heap.size, 0, none⟩) 2 2) (be n 2)) := by have := rb_lits (wxaa) (be n 2) 5 (by simp); rw [b2.out, be_length, ← hww] at this; exact this
        have cst : Chg (fun _ => False) wxaa wxaaa := by rw [hww]; exact (Chg.refl _ _).alloc _
        refine wp_run _ wxaaa (by rw [hww]; exact exec_build2 _ _ rfl _ _ rfl rfl) ?_
        have HX_wxaaa := Lib.hid (cst.heap HX_wxaa.out (fun h => h))
        have G_wxaaa : Hid (Chg (fun _ => False) w wxaaa) := G_wxaa.out.trans cst
        refine hK _ _ cst ?_
        clear hK cst
        clear hww
        try (simp only [Act.put, List.setIfInBounds_toArray, List.set_cons_zero, List.set_cons_succ])
        refine wpT.take 20 rfl (by kernel_rfl) (fun _ _ _ h => h) rfl (fun w' hw' => by have hx := convb w' _ (be n 2) (RBN.out.kept hw' (fun _ _ h => h)); go_simp <;> with_reducible rfl) ?_
        simp only [Act.put, List.setIfInBounds_toArray, List.set_cons_zero, List.set_cons_succ]
        refine wpT.take 21 rfl (by kernel_rfl) (fun _ _ _ h => h) rfl (fun w' hw' => exec_cat _ _ _ rfl ((KK ++ (be x.tenant.length 2 ++ x.tenant)) ++ (be x.series.length 2 ++ x.series)) (be n 2) rfl rfl (by simp; omega)) ?_
        simp only [Act.put, List.setIfInBounds_toArray, List.set_cons_zero, List.set_cons_succ]
        refine wpT.take 22 rfl (by kernel_rfl) (fun _ _ _ h => h) rfl (fun w' hw' => by go_simp <;> with_reducible rfl) ?_
        simp only [Act.put, List.setIfInBounds_toArray, List.set_cons_zero, List.set_cons_succ]
        refine wpT.done (by kernel_rfl) ?_
        go_wp2_with fail
        go_meet
        exact ⟨by simp only [List.append_assoc], HX_wxaaa, G_wxaaa⟩
      · obtain ⟨wxab, hww⟩ : ∃ q, q = wxa.alloc (.cells #[.int .u8 ((n : Int) / 256), .int .u8 ((n : Int) % 256)] 5) := ⟨_, rfl⟩
        have RBN : Hid (RB wxab (.slice (some ⟨wxa.heap.size, 0, none⟩) 2 2) (be n 2)) := by have := rb_lits (wxa) (be n 2) 5 (by simp); rw [b2.out, be_length, ← hww] at this; exact this
        have cst : Chg (fun _ => False) wxa wxab := by rw [hww]; exact (Chg.refl _ _).alloc _
        refine wp_run _ wxab (by rw [hww]; exact exec_build2 _ _ rfl _ _ rfl rfl) ?_
        have HX_wxab := Lib.hid (cst.heap HX_wxa.out (fun h => h))
        have G_wxab : Hid (Chg (fun _ => False) w wxab) := G_wxa.out.trans cst
        refine hK _ _ cst ?_
        clear hK cst
        clear hww
        try (simp only [Act.put, List.setIfInBounds_toArray, List.set_cons_zero, List.set_cons_succ])
        refine wpT.take 20 rfl (by kernel_rfl) (fun _ _ _ h => h) rfl (fun w' hw' => by have hx := convb w' _ (be n 2) (RBN.out.kept hw' (fun _ _ h => h)); go_simp <;> with_reducible rfl) ?_
        simp only [Act.put, List.setIfInBounds_toArray, List.set_cons_zero, List.set_cons_succ]
        refine wpT.call 7 rfl (by kernel_rfl) rfl (fun K hK => ?_)
        go_wp2_with fail
        refine (ref_text x.series _ (by omega)).mono ?_
        rintro e wxaba ⟨rfl, cst⟩
        have HX_wxaba := Lib.hid (cst.heap HX_wxab.out (fun h => h))
        have G_wxaba : Hid (Chg (fun _ => False) w wxaba) := G_wxab.out.trans cst
        refine hK _ _ cst ?_
        clear hK cst
        try (simp only [Act.put, List.setIfInBounds_toArray, List.set_cons_zero, List.set_cons_succ])
        refine wpT.take 8 rfl (by kernel_rfl) (fun _ _ _ h => h) rfl (fun w' hw' => exec_cat _ _ _ rfl (KK ++ (be x.tenant.length 2 ++ x.tenant)) (be x.series.length 2 ++ x.series) rfl rfl (by simp; omega)) ?_
        simp only [Act.put, List.setIfInBounds_toArray, List.set_cons_zero, List.set_cons_succ]
        refine wpT.take 21 rfl (by kernel_rfl) (fun _ _ _ h => h) rfl (fun w' hw' => exec_cat _ _ _ rfl ((KK ++ (be x.tenant.length 2 ++ x.tenant)) ++ (be x.series.length 2 ++ x.series)) (be n 2) rfl rfl (by simp; omega)) ?_
        simp only [Act.put, List.setIfInBounds_toArray, List.set_cons_zero, List.set_cons_succ]
        refine wpT.take 22 rfl (by kernel_rfl) (fun _ _ _ h => h) rfl (fun w' hw' => by go_simp <;> with_reducible rfl) ?_
        simp only [Act.put, List.setIfInBounds_toArray, List.set_cons_zero, List.set_cons_succ]
        refine wpT.done (by kernel_rfl) ?_
        go_wp2_with fail
        go_meet
        exact ⟨by simp only [List.append_assoc], HX_wxaba, G_wxaba⟩
    · obtain ⟨wxb, hww⟩ : ∃ q, q = w1.drew.alloc (.cells #[.int .u8 ((n : Int) / 256), .int .u8 ((n : Int) % 256)] 5) := ⟨_, rfl⟩
      have RBN : Hid (RB wxb (.slice (some ⟨w1.heap.size, 0, none⟩) 2 2) (be n 2)) := by have := rb_lits (w1.drew) (be n 2) 5 (by simp); rw [b2.out, be_length, ← hww] at this; exact this
      have cst : Chg (fun _ => False) w1.drew wxb := by rw [hww]; exact (Chg.refl _ _).alloc _
      refine wp_run _ wxb (by rw [hww]; exact exec_build2 _ _ rfl _ _ rfl rfl) ?_
      have HX_wxb := Lib.hid (((Chg.refl (fun _ => False) w1).drew.trans cst).heap HX1.out (fun h => h))
      have G_wxb : Hid (Chg (fun _ => False) w wxb) := G1.out.trans ((Chg.refl (fun _ => False) w1).drew.trans cst)
      refine hK _ _ cst ?_
      clear hK cst
      clear hww
      try (simp only [Act.put, List.setIfInBounds_toArray, List.set_cons_zero, List.set_cons_succ])
      refine wpT.take 20 rfl (by kernel_rfl) (fun _ _ _ h => h) rfl (fun w' hw' => by have hx := convb w' _ (be n 2) (RBN.out.kept hw' (fun _ _ h => h)); go_simp <;> with_reducible rfl) ?_
      simp only [Act.put, List.setIfInBounds_toArray, List.set_cons_zero, List.set_cons_succ]
      refine wpT.call 3 rfl (by kernel_rfl) rfl (fun K hK => ?_)
      go_wp2_with fail
      refine (ref_text x.tenant _ (by omega)).mono ?_
      rintro e wxba ⟨rfl, cst⟩
      have HX_wxba := Lib.hid (cst.heap HX_wxb.out (fun h => h))
      have G_wxba : Hid (Chg (fun _ => False) w wxba) := G_wxb.out.trans cst
      refine hK _ _ cst ?_
      clear hK cst
      try (simp only [Act.put, List.setIfInBounds_toArray, List.set_cons_zero, List.set_cons_succ])
      refine wpT.take 4 rfl (by kernel_rfl) (fun _ _ _ h => h) rfl (fun w' hw' => exec_cat _ _ _ rfl KK (be x.tenant.length 2 ++ x.tenant) rfl rfl (by simp; omega)) ?_
      simp only [Act.put, List.setIfInBounds_toArray, List.set_cons_zero, List.set_cons_succ]
      refine wpT.call 7 rfl (by kernel_rfl) rfl (fun K hK => ?_)
      go_wp2_with fail
      refine (ref_text x.series _ (by omega)).mono ?_
      rintro e wxbaa ⟨rfl, cst⟩
      have HX_wxbaa := Lib.hid (cst.heap HX_wxba.out (fun h => h))
      have G_wxbaa : Hid (Chg (fun _ => False) w wxbaa) := G_wxba.out.trans cst
      refine hK _ _ cst ?_
      clear hK cst
      try (simp only [Act.put, List.setIfInBounds_toArray, List.set_cons_zero, List.set_cons_succ])
      refine wpT.take 8 rfl (by kernel_rfl) (fun _ _ _ h => h) rfl (fun w' hw' => exec_cat _ _ _ rfl (KK ++ (be x.tenant.length 2 ++ x.tenant)) (be x.series.length 2 ++ x.series) rfl rfl (by simp; omega)) ?_
      simp only [Act.put, List.setIfInBounds_toArray, List.set_cons_zero, List.set_cons_succ]
      refine wpT.take 21 rfl (by kernel_rfl) (fun _ _ _ h => h) rfl (fun w' hw' => exec_cat _ _ _ rfl ((KK ++ (be x.tenant.length 2 ++ x.tenant)) ++ (be x.series.length 2 ++ x.series)) (be n 2) rfl rfl (by simp; omega)) ?_
      simp only [Act.put, List.setIfInBounds_toArray, List.set_cons_zero, List.set_cons_succ]
      refine wpT.take 22 rfl (by kernel_rfl) (fun _ _ _ h => h) rfl (fun w' hw' => by go_simp <;> with_reducible rfl) ?_
      simp only [Act.put, List.setIfInBounds_toArray, List.set_cons_zero, List.set_cons_succ]
      refine wpT.done (by kernel_rfl) ?_
      go_wp2_with fail
      go_meet
      exact ⟨by simp only [List.append_assoc], HX_wxbaa, G_wxbaa⟩
  case rest =>
    obtain ⟨rfl, HXc, Gc⟩ := hcut
    clear HX1 G1 q1 b2
    obtain ⟨A, hA⟩ : ∃ A, A = KK ++ (be x.tenant.length 2 ++ x.tenant) ++ (be x.series.length 2 ++ x.series) ++ be n 2 := ⟨_, rfl⟩
    have hAl : A.length ≤ 1000 := by rw [hA]; simp; omega
    rw [← hA]
    have HA := Lib.hid hA
    clear hA
    have q4 : wc.cell? ⟨w.heap.size, 4, none⟩ = some (.slice va n vc) := cell_cmd HXc.out 4 _ HPV.out
    go_wp2_with fail
    clear q4
    go_loopw [4, 6, 64] (fun s _ i wr => ∃ k : Nat, k ≤ n ∧ i = .int .i64 k ∧ s = .string ⟨(A ++ penc (ps.take k)).toArray⟩ ∧ Hid (Chg (fun _ => False) w wr)) (fun _ _ i _ => n - (intOf i).toNat)
    case atStart => exact ⟨0, by omega, rfl, by simp [penc], Gc⟩
    case round =>
      obtain ⟨k, hk, rfl, rfl, hG⟩ := hrel
      by_cases hlt : k < n
      · obtain ⟨p, hpk⟩ : ∃ p, ps[k]? = some p := ⟨_, List.getElem?_eq_getElem (by rw [← HN.out]; exact hlt)⟩
        have hvr := HV.out.kept hG.out (fun _ _ h => h)
        obtain ⟨g, o, rfl⟩ : ∃ g o, va = some ⟨g, o, none⟩ := by
          rcases hvr.2 with ⟨hv, h0⟩ | ⟨g, o, c', hv, _⟩
          · omega
          · simp only [Value.slice.injEq] at hv; exact ⟨g, o, hv.1⟩
        have hcell : ∀ c u, c < 2 → p.cells[c]? = some u → wr.cell? ⟨g, o + (k * 2 + c), none⟩ = some u := by
          intro c u hc hu
          rcases hvr.2 with ⟨hv, h0⟩ | ⟨g', o', c', hv, _, _, _, h4⟩
          · simp at hv
          · simp only [Value.slice.injEq, Option.some.injEq, Addr.mk.injEq, and_true] at hv
            obtain ⟨⟨rfl, rfl⟩, _⟩ := hv
            exact h4 (k * 2 + c) u (by rw [rows_at (s := 2) (f := Pnt.cells) ps (fun _ _ => rfl) k c p hpk hc]; exact hu)
        have hst := penc_snoc ps k p hpk
        have hlen : (penc (ps.take k)).length ≤ 16 * 255 := by
          rw [penc_length]
          have : (ps.take k).length ≤ k := by simp; omega
          omega
        obtain ⟨px, py⟩ := p
        have a0 : wr.cell? ⟨g, o + k * 2, none⟩ = some (.int .i64 px) := hcell 0 _ (by omega) rfl
        have a1 : wr.cell? ⟨g, o + k * 2 + 1, none⟩ = some (.int .i64 py) := hcell 1 _ (by omega) rfl
        have hkI : (k : Int) < n := by omega
        have hw1 : wrap64 ((k : Int) + 1) = (k : Int) + 1 := by unfold wrap64; omega
        have HST := Lib.hid hst
        obtain ⟨B, hB⟩ : ∃ B, B = A ++ penc (ps.take k) := ⟨_, rfl⟩
        have hBl : B.length ≤ 10000 := by rw [hB]; simp; omega
        rw [← hB]
        have HB := Lib.hid hB
        clear hst hvr hcell hpk hB
        obtain ⟨w2, hw2⟩ : ∃ w2, w2 = wr.alloc (.cells #[.int .i64 px, .int .i64 py] 116) := ⟨_, rfl⟩
        have P2 : Hid (w2.heap[wr.heap.size]? = some (.cells #[.int .i64 px, .int .i64 py] 116 (0, 0))) := by rw [hw2]; exact heap_at_new _ _ _ rfl
        have G2 : Hid (Chg (fun _ => False) w w2) := by rw [hw2]; exact hG.out.alloc _
        go_wp2_with fail
        rw [← hw2]
        clear hw2 a0 a1
        refine wpT.begin (fun _ => False) 10 (by kernel_rfl) rfl ?_
        refine wpT.take 0 rfl (by kernel_rfl) (fun _ _ _ h => h) rfl (fun w' hw' => by go_simp <;> with_reducible rfl) ?_
        simp only [Act.put, List.setIfInBounds_toArray, List.set_cons_zero, List.set_cons_succ]
        refine wpT.take 1 rfl (by kernel_rfl) (fun _ _ _ h => h) rfl (fun w' hw' => by go_simp <;> with_reducible rfl) ?_
        simp only [Act.put, List.setIfInBounds_toArray, List.set_cons_zero, List.set_cons_succ]
        refine wpT.ld 2 rfl (by kernel_rfl) (fun _ _ _ _ h => h) rfl _ _ rfl (by kernel_rfl) ⟨wr.heap.size, 0, none⟩ rfl _ (by rw [World.cell?_drew, cell_of_heap P2.out]; rfl) (fun h => h) ?_
        simp only [Act.put, List.setIfInBounds_toArray, List.set_cons_zero, List.set_cons_succ]
        refine wpT.take 5 rfl (by kernel_rfl) (fun _ _ _ h => h) rfl (fun w' hw' => by go_simp <;> with_reducible rfl) ?_
        simp only [Act.put, List.setIfInBounds_toArray, List.set_cons_zero, List.set_cons_succ]
        refine wpT.ld 6 rfl (by kernel_rfl) (fun _ _ _ _ h => h) rfl _ _ rfl (by kernel_rfl) ⟨wr.heap.size, 1, none⟩ rfl _ (by rw [World.cell?_drew, cell_of_heap P2.out]; rfl) (fun h => h) ?_
        simp only [Act.put, List.setIfInBounds_toArray, List.set_cons_zero, List.set_cons_succ]
        refine wpT.call 3 rfl (by kernel_rfl) rfl (fun K hK => ?_)
        go_wp2_with fail
        refine (ref_int px _).mono ?_
        rintro e w2y1 ⟨rfl, cst⟩
        have P_w2y1 := Lib.hid (((Chg.refl (fun _ => False) w2).drew.trans cst).heap P2.out (fun h => h))
        have G_w2y1 : Hid (Chg (fun _ => False) w w2y1) := G2.out.trans ((Chg.refl (fun _ => False) w2).drew.trans cst)
        refine hK _ _ cst ?_
        clear hK cst
        try (simp only [Act.put, List.setIfInBounds_toArray, List.set_cons_zero, List.set_cons_succ])
        refine wpT.take 4 rfl (by kernel_rfl) (fun _ _ _ h => h) rfl (fun w' hw' => exec_cat _ _ _ rfl B (i8 px) rfl rfl (by simp; omega)) ?_
        simp only [Act.put, List.setIfInBounds_toArray, List.set_cons_zero, List.set_cons_succ]
        refine wpT.call 7 rfl (by kernel_rfl) rfl (fun K hK => ?_)
        go_wp2_with fail
        refine (ref_int py _).mono ?_
        rintro e w2y2 ⟨rfl, cst⟩
        have P_w2y2 := Lib.hid (cst.heap P_w2y1.out (fun h => h))
        have G_w2y2 : Hid (Chg (fun _ => False) w w2y2) := G_w2y1.out.trans cst
        refine hK _ _ cst ?_
        clear hK cst
        try (simp only [Act.put, List.setIfInBounds_toArray, List.set_cons_zero, List.set_cons_succ])
        refine wpT.take 8 rfl (by kernel_rfl) (fun _ _ _ h => h) rfl (fun w' hw' => exec_cat _ _ _ rfl (B ++ (i8 px)) (i8 py) rfl rfl (by simp; omega)) ?_
        simp only [Act.put, List.setIfInBounds_toArray, List.set_cons_zero, List.set_cons_succ]
        refine wpT.take 9 rfl (by kernel_rfl) (fun _ _ _ h => h) rfl (fun w' hw' => by go_simp <;> with_reducible rfl) ?_
        simp only [Act.put, List.setIfInBounds_toArray, List.set_cons_zero, List.set_cons_succ]
        refine wpT.done (by kernel_rfl) ?_
        go_wp2_with fail
        refine ⟨⟨k + 1, by omega, rfl, ?_, G_w2y2⟩, by simp only [intOf]; omega⟩
        rw [HST.out, HB.out]
        simp [Pnt.enc]
      · obtain rfl : k = n := by omega
        rw [List.take_of_length_le (by rw [HN.out]; exact Nat.le_refl _)]
        go_wp2_with fail
        go_ret
        refine ⟨?_, hG.out⟩
        show Ending.returned (.string ⟨_⟩) = _
        rw [HA.out]
        try simp only [List.append_assoc]

theorem bytes_any (x : Cmd) (ps : List Pnt) (w : World) (hv : Reads w 2 x.pv ps.length (ps.flatMap Pnt.cells)) (hk : 0 ≤ x.kind ∧ x.kind < 10) (hs : ∀ i ∈ x.its ps, i.short) :
    Calls Try.prog 20 #[.agg #[.int .i64 x.kind, .string ⟨x.tenant.toArray⟩, .string ⟨x.series.toArray⟩, .string ⟨x.name.toArray⟩, x.pv, .int .i64 x.rlo, .int .i64 x.rhi, .int .i64 x.praw, .int .i64 x.pmid, .int .i64 x.plong, .string ⟨x.hname.toArray⟩, .string ⟨x.hser.toArray⟩, .int .i64 x.hlo, .int .i64 x.hhi, .int .i64 x.bytes, .int .i64 x.count, .int .i64 x.at_]] w fun e w' => e = .returned (.string ⟨(be x.kind.toNat 1 ++ encIts (x.its ps)).toArray⟩) ∧ Chg (fun _ => False) w w' := by
  have hk' : x.kind = 0 ∨ x.kind = 1 ∨ x.kind = 2 ∨ x.kind = 3 ∨ x.kind = 4 ∨ x.kind = 5 ∨ x.kind = 6 ∨ x.kind = 7 ∨ x.kind = 8 ∨ x.kind = 9 := by omega
  rcases hk' with h | h | h | h | h | h | h | h | h | h
  · have hi : x.its ps = [.t x.tenant, .n x.bytes, .n x.count] := by unfold Cmd.its; rw [h]; simp
    refine (bytes_0 x w h (hs (.t x.tenant) (by rw [hi]; simp))).mono ?_
    rintro e w' ⟨rfl, c⟩
    refine ⟨?_, c⟩
    rw [hi, h]
    simp [encIts, It.enc]
  · have hi : x.its ps = [.t x.tenant, .n x.bytes, .n x.count] := by unfold Cmd.its; rw [h]; simp
    refine (bytes_1 x w h (hs (.t x.tenant) (by rw [hi]; simp))).mono ?_
    rintro e w' ⟨rfl, c⟩
    refine ⟨?_, c⟩
    rw [hi, h]
    simp [encIts, It.enc]
  · have hi : x.its ps = [.t x.tenant] := by unfold Cmd.its; rw [h]; simp
    refine (bytes_2 x w h (hs (.t x.tenant) (by rw [hi]; simp))).mono ?_
    rintro e w' ⟨rfl, c⟩
    refine ⟨?_, c⟩
    rw [hi, h]
    simp [encIts, It.enc]
  · have hi : x.its ps = [.t x.tenant, .t x.series, .p ps] := by unfold Cmd.its; rw [h]; simp
    refine (bytes_3 x ps w hv h (hs (.t x.tenant) (by rw [hi]; simp)) (hs (.t x.series) (by rw [hi]; simp)) (hs (.p ps) (by rw [hi]; simp))).mono ?_
    rintro e w' ⟨rfl, c⟩
    refine ⟨?_, c⟩
    rw [hi, h]
    simp [encIts, It.enc]
  · have hi : x.its ps = [.t x.tenant, .n x.praw, .n x.pmid, .n x.plong] := by unfold Cmd.its; rw [h]; simp
    refine (bytes_4 x w h (hs (.t x.tenant) (by rw [hi]; simp))).mono ?_
    rintro e w' ⟨rfl, c⟩
    refine ⟨?_, c⟩
    rw [hi, h]
    simp [encIts, It.enc]
  · have hi : x.its ps = [.t x.tenant, .t x.hname, .t x.hser, .n x.hlo, .n x.hhi] := by unfold Cmd.its; rw [h]; simp
    refine (bytes_5 x w h (hs (.t x.tenant) (by rw [hi]; simp)) (hs (.t x.hname) (by rw [hi]; simp)) (hs (.t x.hser) (by rw [hi]; simp))).mono ?_
    rintro e w' ⟨rfl, c⟩
    refine ⟨?_, c⟩
    rw [hi, h]
    simp [encIts, It.enc]
  · have hi : x.its ps = [.t x.tenant, .t x.name] := by unfold Cmd.its; rw [h]; simp
    refine (bytes_6 x w h (hs (.t x.tenant) (by rw [hi]; simp)) (hs (.t x.name) (by rw [hi]; simp))).mono ?_
    rintro e w' ⟨rfl, c⟩
    refine ⟨?_, c⟩
    rw [hi, h]
    simp [encIts, It.enc]
  · have hi : x.its ps = [.t x.tenant, .t x.series, .n x.rlo, .n x.rhi] := by unfold Cmd.its; rw [h]; simp
    refine (bytes_7 x w h (hs (.t x.tenant) (by rw [hi]; simp)) (hs (.t x.series) (by rw [hi]; simp))).mono ?_
    rintro e w' ⟨rfl, c⟩
    refine ⟨?_, c⟩
    rw [hi, h]
    simp [encIts, It.enc]
  · have hi : x.its ps = [.n x.at_] := by unfold Cmd.its; rw [h]; simp
    refine (bytes_8 x w h ).mono ?_
    rintro e w' ⟨rfl, c⟩
    refine ⟨?_, c⟩
    rw [hi, h]
    simp [encIts, It.enc]
  · have hi : x.its ps = [.n x.bytes] := by unfold Cmd.its; rw [h]; simp
    refine (bytes_9 x w h ).mono ?_
    rintro e w' ⟨rfl, c⟩
    refine ⟨?_, c⟩
    rw [hi, h]
    simp [encIts, It.enc]
end Go.Proofs.Ytjhkhdockiocgaa
