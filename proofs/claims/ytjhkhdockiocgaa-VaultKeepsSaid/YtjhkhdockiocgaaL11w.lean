/- VaultKeeps: the walk. -/
import Derived.Test.YtjhkhdockiocgaaM11
import Derived.Deep.CutRange
import Derived.Deep.CutBlock
namespace Go.Proofs.Ytjhkhdockiocgaa
open Go.RowKit Go.Cat
/-- What an act leaves behind it. -/
def ActOut (w0 wx : World) (D V i : Nat) (iv cv wv fv cr : Value) : Prop :=
  (cr = .bool false ∧ ∃ J half t K d img chs, VK w0 wx D V J half t (i + 1) K d img chs iv cv) ∨
  (cr = .bool true ∧ ∃ K d T img chs, T ≤ 2 * i + 2 ∧ CS w0 wx D K d T img chs iv cv wv fv)
set_option maxRecDepth 100000 in
set_option maxHeartbeats 8000000 in
theorem keeps11 (w : World) (lv : Value) (L : List Act11) (hL : Reads w 6 lv L.length (L.flatMap Act11.cells)) (hA : ∀ a ∈ L, RBz w a.dv a.data ∧ -9223372036854775808 ≤ a.n ∧ a.n ≤ 9223372036854775807) :
    Calls Try.prog 11 #[lv] w fun e w' => e = .returned (.bool true) ∧ Chg (fun _ => False) w w' := by
  obtain ⟨la, lc, rfl⟩ := hL.form
  obtain ⟨n, hn⟩ : ∃ n, n = L.length := ⟨_, rfl⟩
  rw [← hn] at hL ⊢
  have HL := Lib.hid hL
  have HA := Lib.hid hA
  have HN := Lib.hid hn
  clear hL hA hn
  by_cases h25 : 25 < n
  · have i25 : (25 : Int) < n := by omega
    go_enter Try.func11, Try.ntmps11
    go_wp2_with (go_at_call 38; refine (lives11 _).mono ?_; rintro e w1 ⟨rfl, c1⟩; refine Hid.out ?_)
    refine Lib.hid ?_
    go_wp2_with (go_at_call 38; refine (lives11 _).mono ?_; rintro e w2 ⟨rfl, c2⟩)
    go_ret
    exact ⟨rfl, c1.trans c2⟩
  have i25 : ¬ (25 : Int) < n := by omega
  go_enter Try.func11, Try.ntmps11
  go_wp2_with (go_at_call 38; refine (lives11 _).mono ?_; rintro e w1 ⟨rfl, c1⟩; refine Hid.out ?_)
  refine Lib.hid ?_
  go_wp2_with fail
  refine (dj_new w w1 100 (by omega) (by omega) c1).mono ?_
  rintro e w2 ⟨D, rfl, h2, c2⟩
  have FM := Lib.hid (vformat w w2 D 50 (fun _ => False) _ (.slice none 0 0) [] h2 dj_blank (.inl (RB.nil w2)) (.inl ⟨rfl, _, rfl⟩) (by simp) (by decide) (by omega) (by omega))
  clear h2
  go_wp2_with fail
  refine FM.out.mono ?_
  rintro e w3 ⟨V, J0, d0, rfl, h3, T3, c3, t3⟩
  have HV0 := Lib.hid (vk_init h3)
  clear h3 c3 t3 FM c1 c2
  go_wp2_with fail
  go_loopw [5, 7, 8, 46] (fun vv iv cv ci wr => ∃ i : Nat, i ≤ n ∧ ci = .int .i64 i ∧ ∃ V J half t K d img chs, vv = .pointer (some ⟨V, 0, none⟩) ∧ VK w wr D V J half t i K d img chs iv cv) (fun _ _ _ ci _ => n - (intOf ci).toNat)
  case atStart => exact ⟨0, by omega, rfl, V, J0, _, _, _, _, _, _, rfl, HV0.out⟩
  case round =>
    obtain ⟨i, hi, rfl, V, J, half, t, KK, d, img, chs, rfl, hK⟩ := hrel
    clear HV0
    have CH := Lib.hid hK.dj.1
    have HK := Lib.hid hK
    by_cases hlt : i < n
    · have hi25 : i ≤ 25 := by omega
      obtain ⟨a, ha⟩ := getElem?_some_lt (show i < L.length by rw [← HN.out]; exact hlt)
      obtain ⟨hdv, hn1, hn2⟩ := HA.out a (List.mem_of_getElem? ha)
      obtain ⟨g, o, rfl⟩ : ∃ g o, la = some ⟨g, o, none⟩ := by
        rcases HL.out.2 with ⟨hv, h0⟩ | ⟨g, o, c, hv, _⟩
        · omega
        · simp only [Value.slice.injEq] at hv; exact ⟨g, o, hv.1⟩
      have hld : (Instr.loadAt 78 (.pointer (some ⟨g, o + i * 6, none⟩))).run Try.prog wr = .ok (.agg a.cells.toArray) wr := by
        refine run_loadAt_agg wr _ _ g (o + i * 6) a.cells Try.underlying78 rfl (by kernel_rfl) fun j u hj => ?_
        have hkept := HL.out.kept CH.out (fun _ _ h => h)
        rcases hkept.2 with ⟨hv, h0⟩ | ⟨g', o', c, hv, g1, g2, g3, g4⟩
        · simp at hv
        · simp only [Value.slice.injEq, Option.some.injEq, Addr.mk.injEq, true_and, and_true] at hv
          obtain ⟨⟨rfl, rfl⟩, rfl⟩ := hv
          rw [Nat.add_assoc]
          refine g4 _ u ?_
          have hj6 : j < 6 := (List.getElem?_eq_some_iff.1 hj).1
          rw [rows_at L (s := 6) (f := Act11.cells) (fun _ _ => rfl) i j a ha hj6]
          exact hj
      obtain ⟨da, dc, hde⟩ := hdv.form
      obtain ⟨dn, hdn⟩ : ∃ dn, dn = a.data.length := ⟨_, rfl⟩
      rw [← hdn] at hde
      have hac : a.cells = [.int .i64 a.kind, .int .i64 a.n, .slice da dn dc, .int .u64 a.keep, .int .i64 a.torn, .int .i64 a.bytes] := by rw [← hde]; rfl
      rw [hac] at hld
      have HDO := Lib.hid (old_of (K := KK) hdv)
      have HDV := Lib.hid (hdv.same CH.out)
      rw [hde] at HDO HDV
      have HDN := Lib.hid hdn
      have hst := store_new11 (P := Try.prog) 78 [.int .i64 0, .int .i64 0, .slice none 0 0, .int .u64 0, .int .i64 0, .int .i64 0] [.int .i64 a.kind, .int .i64 a.n, .slice da dn dc, .int .u64 a.keep, .int .i64 a.torn, .int .i64 a.bytes] 78 (by kernel_rfl) rfl (by intro u hu; simp at hu; rcases hu with rfl | rfl | rfl | rfl | rfl | rfl <;> rfl) wr
      generalize a.kind = ak at hld hst
      generalize a.n = an at hn1 hn2 hld hst
      generalize a.keep = aK at hld hst
      generalize a.torn = aT at hld hst
      generalize a.bytes = aB at hld hst
      obtain ⟨dl, hdl⟩ : ∃ dl, dl = a.data := ⟨_, rfl⟩
      rw [← hdl] at HDO HDV HDN
      clear ha hac hde hdn hdl hdv
      obtain ⟨wa, hwa⟩ : ∃ wa, wa = wr.alloc (.cells #[.int .i64 ak, .int .i64 an, .slice da dn dc, .int .u64 aK, .int .i64 aT, .int .i64 aB] 78) := ⟨_, rfl⟩
      have hA10 : wa.heap[wr.heap.size]? = some (.cells #[.int .i64 ak, .int .i64 an, .slice da dn dc, .int .u64 aK, .int .i64 aT, .int .i64 aB] 78 (0, 0)) := by rw [hwa]; exact heap_at_new _ _ _ rfl
      have ca : Chg (fun _ => False) wr wa := by rw [hwa]; exact (Chg.refl _ _).alloc _
      rw [show (List.toArray [Value.int .i64 ak, .int .i64 an, .slice da dn dc, .int .u64 aK, .int .i64 aT, .int .i64 aB]) = #[Value.int .i64 ak, .int .i64 an, .slice da dn dc, .int .u64 aK, .int .i64 aT, .int .i64 aB] from rfl, ← hwa] at hst
      have HA10 := Lib.hid hA10
      have CA := Lib.hid ca
      have b2 : wa.cell? ⟨wr.heap.size, 2, none⟩ = some (.slice da dn dc) := by rw [cell_of_heap hA10]; rfl
      clear hwa hA10 ca
      by_cases h150 : 150 < dn
      · have i150 : (150 : Int) < dn := by omega
        go_wp2_with (first | refine wpList_load rfl 78 _ rfl _ _ rfl hld ?_ | refine wpList_store rfl 78 _ _ rfl _ _ _ rfl rfl hst ?_)
        go_ret
        exact ⟨rfl, CH.out.trans CA.out⟩
      have i150 : ¬ (150 : Int) < dn := by omega
      obtain ⟨vs, hvs, hve, hvo, hv1⟩ := HK.out.ch
      obtain ⟨ca, cc, rfl⟩ := hvs.form
      obtain ⟨cn, hcn⟩ : ∃ cn, cn = chs.length := ⟨_, rfl⟩
      have hcc : cn ≤ cc := by
        rcases hvs.2 with ⟨hv, h0⟩ | ⟨g, o, c, hv, g1, _⟩
        · omega
        · simp only [Value.slice.injEq] at hv; omega
      have hc25 : cn ≤ 25 := by have := HK.out.bc; omega
      have HSL : Hid (∀ W, (Instr.sliceAt 43 (.slice ca cn cc) none (some (.int .i64 cn)) (some (.int .i64 cn))).run Try.prog W = .ok (.slice ca cn cn) W) := fun W => slice_full43 W ca cn cc hcc
      have hvr : Reads wa.drew 1 (.slice ca cn cn) cn vs := by
        have h := hvs.kept (CA.out.drew) (fun _ _ h => h)
        rw [← hcn] at h
        rcases h.2 with ⟨hv, h0⟩ | ⟨g, o, c, hv, g1, g2, g3, g4⟩
        · simp only [Value.slice.injEq] at hv
          obtain ⟨rfl, rfl, rfl⟩ := hv
          exact h
        · simp only [Value.slice.injEq, true_and] at hv
          obtain ⟨rfl, rfl⟩ := hv
          exact ⟨h.1, .inr ⟨g, o, cn, rfl, Nat.le_refl _, by omega, g3, g4⟩⟩
      have HVS := Lib.hid hvr
      have HVE := Lib.hid hve
      have HV1 := Lib.hid hv1
      have HVL : Hid (vs.length = chs.length) := by have := hvs.1; show _ = _; omega
      have HCN := Lib.hid hcn
      rw [← hcn]
      have HA2 : Hid (wa.drew.cell? ⟨wr.heap.size, 2, none⟩ = some (.slice da dn dc)) := b2
      clear hvs hve hvo hv1 hcn hvr hK
      go_wp2_with (first | refine wpList_load rfl 78 _ rfl _ _ rfl hld ?_ | refine wpList_store rfl 78 _ _ rfl _ _ _ rfl rfl hst ?_)
      clear hld hst b2
      refine wpT.begin (fun _ => False) 12 (by kernel_rfl) rfl ?_
      refine wpT.take 0 rfl (by kernel_rfl) (fun _ _ _ h => h) rfl (fun w' hw' => by go_simp <;> with_reducible rfl) ?_
      simp only [Act.put, List.setIfInBounds_toArray, List.set_cons_zero, List.set_cons_succ]
      refine wpT.take 1 rfl (by kernel_rfl) (fun _ _ _ h => h) rfl (fun w' hw' => by go_simp <;> with_reducible rfl) ?_
      simp only [Act.put, List.setIfInBounds_toArray, List.set_cons_zero, List.set_cons_succ]
      refine wpT.take 2 rfl (by kernel_rfl) (fun _ _ _ h => h) rfl (fun w' hw' => by go_simp <;> with_reducible rfl) ?_
      simp only [Act.put, List.setIfInBounds_toArray, List.set_cons_zero, List.set_cons_succ]
      refine wpT.take 3 rfl (by kernel_rfl) (fun _ _ _ h => h) rfl (fun w' hw' => by go_simp <;> with_reducible rfl) ?_
      simp only [Act.put, List.setIfInBounds_toArray, List.set_cons_zero, List.set_cons_succ]
      refine wpT.take 4 rfl (by kernel_rfl) (fun _ _ _ h => h) rfl (fun w' hw' => by go_simp <;> with_reducible rfl) ?_
      simp only [Act.put, List.setIfInBounds_toArray, List.set_cons_zero, List.set_cons_succ]
      refine wpT.take (v := .slice ca cn cn) 5 rfl (by kernel_rfl) (fun _ _ _ h => h) rfl (fun w' _ => exec_slice11 _ _ _ _ _ rfl _ (HSL.out w')) ?_
      simp only [Act.put, List.setIfInBounds_toArray, List.set_cons_zero, List.set_cons_succ]
      refine wpT.take 6 rfl (by kernel_rfl) (fun _ _ _ h => h) rfl (fun w' hw' => by go_simp <;> with_reducible rfl) ?_
      simp only [Act.put, List.setIfInBounds_toArray, List.set_cons_zero, List.set_cons_succ]
      refine wpT.ld 7 rfl (by kernel_rfl) (fun _ _ _ _ h => h) rfl _ _ rfl (by kernel_rfl) ⟨wr.heap.size, 2, none⟩ rfl _ (HA2.out) (fun h => h) ?_
      simp only [Act.put, List.setIfInBounds_toArray, List.set_cons_zero, List.set_cons_succ]
      refine wpT.call 8 rfl (by kernel_rfl) rfl (fun K hK => ?_)
      go_simp
      refine hK _ _ ((Chg.refl _ _).alloc _) ?_
      clear hK
      try (simp only [Act.put, List.setIfInBounds_toArray, List.set_cons_zero, List.set_cons_succ])
      refine wpT.call 9 rfl (by kernel_rfl) rfl (fun K hK => ?_)
      refine wp_app_full _ _ 43 rfl 33 (.slice none 0 0) 1 24 Try.underlying43 Try.infoBs rfl ca cn vs rfl (HVS.out.alloc _) (.slice (some ⟨wa.drew.heap.size, 0, none⟩) 1 1) 1 [.slice da dn dc] rfl (Reads.one wa.drew [.slice da dn dc] 33) (by omega) (by simp only [maxLen]; omega) (by omega) ?_
      intro wv wb ownw cw inw
      refine hK _ _ cw ?_
      clear hK
      try (simp only [Act.put, List.setIfInBounds_toArray, List.set_cons_zero, List.set_cons_succ])
      refine wpT.take 10 rfl (by kernel_rfl) (fun _ _ _ h => h) rfl (fun w' hw' => by go_simp <;> with_reducible rfl) ?_
      simp only [Act.put, List.setIfInBounds_toArray, List.set_cons_zero, List.set_cons_succ]
      refine wpT.take 11 rfl (by kernel_rfl) (fun _ _ _ h => h) rfl (fun w' hw' => by go_simp <;> with_reducible rfl) ?_
      simp only [Act.put, List.setIfInBounds_toArray, List.set_cons_zero, List.set_cons_succ]
      refine wpT.done (by kernel_rfl) ?_
      have c0b : Chg (fun _ => False) wr wb := ((CA.out.drew).alloc _).trans cw
      have C0B := Lib.hid c0b
      have hwk : ∀ k, wv.ownBlock = some k → wr.heap.size ≤ k ∧ k < wb.heap.size := fun k hk => by
        have h1 : k = wa.heap.size + 1 := by rw [inw k hk]; show (wa.heap.push _).size = _; simp
        have h2 := ownw.lt k hk
        have h3 := CA.out.size
        omega
      have HKB : Hid (VK w wb D V J half t i (fun k => KK k ∨ wv.ownBlock = some k) d img chs u7 (.slice ca cn cc)) := by rw [HCN.out]; exact HK.out.grow c0b (fun k hk => .inl hk) (fun k hk => hk.imp id (hwk k))
      have HWR : Hid (KRows w wb (fun k => KK k ∨ wv.ownBlock = some k) wv (chs ++ [dl])) := krows_push HVE.out HV1.out HVL.out HDV.out HDO.out (rbz_one HDV.out) (by rw [← HCN.out]; exact ownw) c0b
      have HAB : Hid (wb.heap[wr.heap.size]? = some (.cells #[.int .i64 ak, .int .i64 an, .slice da dn dc, .int .u64 aK, .int .i64 aT, .int .i64 aB] 78 (0, 0))) := (((Chg.refl (fun _ => False) wa).drew.alloc _).trans cw).heap HA10.out (fun h => h)
      have HDB : Hid (RBz wb (.slice da dn dc) dl) := HDV.out.same c0b
      obtain ⟨wva, wvc, rfl⟩ := ownw.form
      have HK0 : Hid (t ≤ 2 * i + 1) := HK.out.tb
      have HK0 : Hid (t ≤ 2 * i + 1) := HK.out.tb
      clear c0b hwk cw inw ownw HSL HVS HVE HV1 HVL HDV HDO HA2 HK CH CA HA10
      go_upto_block 2 with fail
      go_cut [7, 8, 11, 12, 13, 14] from 65 to 148 (fun iv cv wv fv cr _ wx => ActOut w wx D V i iv cv wv fv cr)
      case first =>
        have y0 : wb.cell? ⟨wr.heap.size, 0, none⟩ = some (.int .i64 ak) := by rw [cell_of_heap HAB.out]; rfl
        have y1 : wb.cell? ⟨wr.heap.size, 1, none⟩ = some (.int .i64 an) := by rw [cell_of_heap HAB.out]; rfl
        have y2 : wb.cell? ⟨wr.heap.size, 2, none⟩ = some (.slice da dn dc) := by rw [cell_of_heap HAB.out]; rfl
        have y3 : wb.cell? ⟨wr.heap.size, 3, none⟩ = some (.int .u64 aK) := by rw [cell_of_heap HAB.out]; rfl
        have y4 : wb.cell? ⟨wr.heap.size, 4, none⟩ = some (.int .i64 aT) := by rw [cell_of_heap HAB.out]; rfl
        have y5 : wb.cell? ⟨wr.heap.size, 5, none⟩ = some (.int .i64 aB) := by rw [cell_of_heap HAB.out]; rfl
        by_cases hk2 : 0 ≤ ak ∧ ak ≤ 2
        · obtain ⟨k0, k2⟩ := hk2
          have CM := Lib.hid (vk_commit HKB.out _ (.slice da dn dc) dl HDB.out (by rw [← HDN.out]; omega) HWR.out hi25)
          go_wp2_with fail
          refine CM.out.mono ?_
          rintro e w5 (⟨rfl, d5, h5⟩ | ⟨rfl, h5, c5, f5⟩ | ⟨rfl, d5, h5⟩)
          · have H5 := Lib.hid h5
            clear h5 CM y0 y1 y2 y3 y4 y5
            go_wp2_with fail
            go_meet
            exact .inl ⟨rfl, J, half, t, _, d5, img, _, H5.out⟩
          · have H5 := Lib.hid h5
            have z2 : Hid (w5.drew.cell? ⟨wr.heap.size, 2, none⟩ = some (.slice da dn dc)) := c5.drew.cell y2 (fun h => h)
            obtain ⟨U, hU⟩ : ∃ U, U = total (img :: chs) := ⟨_, rfl⟩
            have HU := Lib.hid hU
            have hUf : U ≤ 50 := by rw [hU]; exact h5.cln.fits
            rw [← hU, ← HDN.out] at f5
            have hff : Hid (dn ≤ (50 - U) * 47 → dn = 0) := by show _ → _; unfold costN at f5; omega
            have RM : Hid (∀ W, Chg (fun _ => False) w5 W → Calls Try.prog 44 #[.pointer (some ⟨V, 0, none⟩)] W fun e w' => ∃ q, e = .returned (.int .i64 (((50 - U) * 47 : Nat) : Int)) ∧ w' = W.drewN q) := fun W c => vroom_c W V D half t J (half * 50) 50 U (H5.out.vis.kept c (fun h => h)) (by rw [HU.out]; exact H5.out.ji.kept c (fun h => h)) hUf (by omega)
            obtain ⟨r, hr⟩ : ∃ r, r = (50 - U) * 47 := ⟨_, rfl⟩
            rw [← hr] at RM hff
            clear h5 hU hUf f5 hr CM y0 y1 y2 y3 y4 y5 c5
            go_wp2_with fail
            by_cases hrd : dn ≤ r
            · have i7 : (dn : Int) ≤ r := by omega
              have I8 : Hid (¬ (0 : Int) < dn) := by have := hff.out hrd; show ¬ _; omega
              refine wpT.begin (fun _ => False) 12 (by kernel_rfl) rfl ?_
              refine wpT.take 0 rfl (by kernel_rfl) (fun _ _ _ h => h) rfl (fun w' hw' => by go_simp <;> with_reducible rfl) ?_
              simp only [Act.put, List.setIfInBounds_toArray, List.set_cons_zero, List.set_cons_succ]
              refine wpT.take 2 rfl (by kernel_rfl) (fun _ _ _ h => h) rfl (fun w' hw' => by go_simp <;> with_reducible rfl) ?_
              simp only [Act.put, List.setIfInBounds_toArray, List.set_cons_zero, List.set_cons_succ]
              refine wpT.ld 3 rfl (by kernel_rfl) (fun _ _ _ _ h => h) rfl _ _ rfl (by kernel_rfl) ⟨wr.heap.size, 2, none⟩ rfl _ (z2.out) (fun h => h) ?_
              simp only [Act.put, List.setIfInBounds_toArray, List.set_cons_zero, List.set_cons_succ]
              refine wpT.take 4 rfl (by kernel_rfl) (fun _ _ _ h => h) rfl (fun w' hw' => by go_simp <;> with_reducible rfl) ?_
              simp only [Act.put, List.setIfInBounds_toArray, List.set_cons_zero, List.set_cons_succ]
              refine wpT.call 1 rfl (by kernel_rfl) rfl (fun K hK => ?_)
              go_wp2_with fail
              refine (RM.out _ (Chg.refl (fun _ => False) w5).drew).mono ?_
              rintro e w6 ⟨q6, rfl, rfl⟩
              have c6 : Chg (fun _ => False) w5 (w5.drew.drewN q6) := ((Chg.refl (fun _ => False) w5).drew).drewN q6
              refine hK _ _ (((Chg.refl (fun _ => False) w5.drew)).drewN q6) ?_
              clear hK
              try (simp only [Act.put, List.setIfInBounds_toArray, List.set_cons_zero, List.set_cons_succ])
              refine wpT.take (v := .bool true) 5 rfl (by kernel_rfl) (fun _ _ _ h => h) rfl (fun w' hw' => by go_simp) ?_
              simp only [Act.put, List.setIfInBounds_toArray, List.set_cons_zero, List.set_cons_succ]
              refine wpT.take 6 rfl (by kernel_rfl) (fun _ _ _ h => h) rfl (fun w' hw' => by go_simp <;> with_reducible rfl) ?_
              simp only [Act.put, List.setIfInBounds_toArray, List.set_cons_zero, List.set_cons_succ]
              refine wpT.take 7 rfl (by kernel_rfl) (fun _ _ _ h => h) rfl (fun w' hw' => by go_simp <;> with_reducible rfl) ?_
              simp only [Act.put, List.setIfInBounds_toArray, List.set_cons_zero, List.set_cons_succ]
              refine wpT.ld 8 rfl (by kernel_rfl) (fun _ _ _ _ h => h) rfl _ _ rfl (by kernel_rfl) ⟨wr.heap.size, 2, none⟩ rfl _ (z2.out) (fun h => h) ?_
              simp only [Act.put, List.setIfInBounds_toArray, List.set_cons_zero, List.set_cons_succ]
              refine wpT.take 9 rfl (by kernel_rfl) (fun _ _ _ h => h) rfl (fun w' hw' => by go_simp <;> with_reducible rfl) ?_
              simp only [Act.put, List.setIfInBounds_toArray, List.set_cons_zero, List.set_cons_succ]
              refine wpT.take (v := .bool false) 10 rfl (by kernel_rfl) (fun _ _ _ h => h) rfl (fun w' hw' => by have i8 := I8.out; go_simp; omega) ?_
              simp only [Act.put, List.setIfInBounds_toArray, List.set_cons_zero, List.set_cons_succ]
              refine wpT.take 11 rfl (by kernel_rfl) (fun _ _ _ h => h) rfl (fun w' hw' => by go_simp <;> with_reducible rfl) ?_
              simp only [Act.put, List.setIfInBounds_toArray, List.set_cons_zero, List.set_cons_succ]
              refine wpT.done (by kernel_rfl) ?_
              have H6 := Lib.hid (H5.out.same c6)
              clear c6 z2 hff
              go_wp2_with fail
              go_meet
              exact .inl ⟨rfl, J, half, t, _, d, img, chs, H6.out.next⟩
            · have i7 : ¬ (dn : Int) ≤ r := by omega
              refine wpT.begin (fun _ => False) 12 (by kernel_rfl) rfl ?_
              refine wpT.take 0 rfl (by kernel_rfl) (fun _ _ _ h => h) rfl (fun w' hw' => by go_simp <;> with_reducible rfl) ?_
              simp only [Act.put, List.setIfInBounds_toArray, List.set_cons_zero, List.set_cons_succ]
              refine wpT.take 2 rfl (by kernel_rfl) (fun _ _ _ h => h) rfl (fun w' hw' => by go_simp <;> with_reducible rfl) ?_
              simp only [Act.put, List.setIfInBounds_toArray, List.set_cons_zero, List.set_cons_succ]
              refine wpT.ld 3 rfl (by kernel_rfl) (fun _ _ _ _ h => h) rfl _ _ rfl (by kernel_rfl) ⟨wr.heap.size, 2, none⟩ rfl _ (z2.out) (fun h => h) ?_
              simp only [Act.put, List.setIfInBounds_toArray, List.set_cons_zero, List.set_cons_succ]
              refine wpT.take 4 rfl (by kernel_rfl) (fun _ _ _ h => h) rfl (fun w' hw' => by go_simp <;> with_reducible rfl) ?_
              simp only [Act.put, List.setIfInBounds_toArray, List.set_cons_zero, List.set_cons_succ]
              refine wpT.call 1 rfl (by kernel_rfl) rfl (fun K hK => ?_)
              go_wp2_with fail
              refine (RM.out _ (Chg.refl (fun _ => False) w5).drew).mono ?_
              rintro e w6 ⟨q6, rfl, rfl⟩
              have c6 : Chg (fun _ => False) w5 (w5.drew.drewN q6) := ((Chg.refl (fun _ => False) w5).drew).drewN q6
              refine hK _ _ (((Chg.refl (fun _ => False) w5.drew)).drewN q6) ?_
              clear hK
              try (simp only [Act.put, List.setIfInBounds_toArray, List.set_cons_zero, List.set_cons_succ])
              refine wpT.take (v := .bool false) 5 rfl (by kernel_rfl) (fun _ _ _ h => h) rfl (fun w' hw' => by go_simp) ?_
              simp only [Act.put, List.setIfInBounds_toArray, List.set_cons_zero, List.set_cons_succ]
              refine wpT.take 6 rfl (by kernel_rfl) (fun _ _ _ h => h) rfl (fun w' hw' => by go_simp <;> with_reducible rfl) ?_
              simp only [Act.put, List.setIfInBounds_toArray, List.set_cons_zero, List.set_cons_succ]
              refine wpT.skip 7 rfl (by kernel_rfl) (fun _ _ _ h => h) (by kernel_rfl) ?_
              simp only [Act.put, List.setIfInBounds_toArray, List.set_cons_zero, List.set_cons_succ]
              refine wpT.skip 8 rfl (by kernel_rfl) (fun _ _ _ h => h) (by kernel_rfl) ?_
              simp only [Act.put, List.setIfInBounds_toArray, List.set_cons_zero, List.set_cons_succ]
              refine wpT.skip 9 rfl (by kernel_rfl) (fun _ _ _ h => h) (by kernel_rfl) ?_
              simp only [Act.put, List.setIfInBounds_toArray, List.set_cons_zero, List.set_cons_succ]
              refine wpT.skip 10 rfl (by kernel_rfl) (fun _ _ _ h => h) (by kernel_rfl) ?_
              simp only [Act.put, List.setIfInBounds_toArray, List.set_cons_zero, List.set_cons_succ]
              refine wpT.take 11 rfl (by kernel_rfl) (fun _ _ _ h => h) rfl (fun w' hw' => by go_simp <;> with_reducible rfl) ?_
              simp only [Act.put, List.setIfInBounds_toArray, List.set_cons_zero, List.set_cons_succ]
              refine wpT.done (by kernel_rfl) ?_
              have H6 := Lib.hid (H5.out.same c6)
              clear c6 z2 hff
              go_wp2_with fail
              go_meet
              exact .inl ⟨rfl, J, half, t, _, d, img, chs, H6.out.next⟩
          · have H5 := Lib.hid h5
            clear h5 CM y0 y1 y2 y3 y4 y5
            go_wp2_with fail
            go_meet
            exact .inr ⟨rfl, _, d5, t, img, chs, by have := HK0.out; omega, H5.out⟩
        · by_cases hk3 : ak = 3
          · subst hk3
            have k0 : True := trivial
            have eb : IntKind.u8.wrap (i : Int) = ((UInt8.ofNat i).toNat : Int) := by rw [IntKind.wrap_u8]; simp
            obtain ⟨b, hb⟩ : ∃ b : UInt8, b = UInt8.ofNat i := ⟨_, rfl⟩
            rw [← hb] at eb
            clear hb
            have y6 : (wb.alloc (.cells #[.int .u8 b.toNat] 5)).cell? ⟨wr.heap.size, 2, none⟩ = some (.slice da dn dc) := ((Chg.refl (fun _ => False) wb).alloc _).cell y2 (fun h => h)
            have O1 := ob_one wb 5 b
            have Z1 := (HDB.out.same ((Chg.refl (fun _ => False) wb).alloc (.cells #[.int .u8 b.toNat] 5)))
            go_wp2_with (at_builtin; refine stop_ ?_)
            refine go_on ?_
            refine wpList_app_bz rfl _ _ 33 rfl 5 Try.underlying33 Try.info5 (.slice (some ⟨wb.heap.size, 0, none⟩) 1 1) (.slice da dn dc) [b] dl rfl rfl O1 Z1 (by rw [← HDN.out]; simp; omega) ?_
            intro v6 w6 ob6 c6 in6 nn6
            have c06 : Chg (fun _ => False) wb w6 := ((Chg.refl (fun _ => False) wb).alloc _).new c6 (fun k hk => by simp [Value.ownBlock] at hk; omega)
            have hf6 : ∀ k, v6.ownBlock = some k → wb.heap.size ≤ k := fun k hk => by
              rcases in6 k hk with h | h
              · simp [Value.ownBlock] at h; omega
              · have : (wb.alloc (.cells #[.int .u8 b.toNat] 5)).heap.size = wb.heap.size + 1 := by show (wb.heap.push _).size = _; simp
                omega
            obtain ⟨p6, n6, k6, rfl⟩ : ∃ p n c, v6 = .slice (some p) n c := by
              rcases ob6.2 with ⟨_, h0⟩ | ⟨g, o, c, hv, _⟩
              · simp at h0
              · exact ⟨_, _, _, hv⟩
            have H6 := Lib.hid (HKB.out.grow (K' := fun k => (KK k ∨ (Value.slice wva (cn + 1) wvc).ownBlock = some k) ∨ (Value.slice (some p6) n6 k6).ownBlock = some k) c06 (fun k hk => .inl hk) (fun k hk => hk.imp id (fun h => ⟨hf6 k h, ob6.lt k h⟩)))
            have SL := Lib.hid (vk_seal H6.out (.slice wva (cn + 1) wvc) (.slice (some p6) n6 k6) ([b] ++ dl) ⟨.inl ob6.rb, .inr fun k hk => .inr (.inr hk)⟩ ⟨_, _, _, rfl⟩ (by rw [List.length_append, ← HDN.out]; simp; omega) hi25)
            have VT := Lib.hid (vturn_c w6 V D half t _ H6.out.vis.cells)
            have ht52 : t ≤ 51 := by have := HK0.out; omega
            have et : IntKind.u32.wrap ((t : Int) + 1) = (t : Int) + 1 := by rw [IntKind.wrap_u32]; omega
            clear y6 O1 Z1 ob6 c6 in6 nn6 c06 hf6 y0 y1 y2 y3 y4 y5 eb
            go_wp2_with fail
            refine VT.out.mono ?_
            rintro e w' ⟨rfl, rfl⟩
            go_wp2_with fail
            refine SL.out.mono ?_
            rintro e w7 (⟨rfl, J7, d7, h7⟩ | ⟨rfl, d7, h7⟩)
            · have H7 := Lib.hid h7
              clear h7 SL VT
              go_wp2_with fail
              refine (vturn_c w7 V D (1 - half) (t + 1) _ H7.out.vis.cells).mono ?_
              rintro e w' ⟨rfl, rfl⟩
              go_wp2_with fail
              go_meet
              exact .inl ⟨rfl, J7, 1 - half, t + 1, _, d7, _, [], H7.out⟩
            · have H7 := Lib.hid h7
              clear h7 SL VT
              go_wp2_with fail
              go_meet
              exact .inr ⟨rfl, _, d7, t + 1, img, chs, by have := HK0.out; omega, H7.out⟩
          · by_cases hk4 : ak = 4
            · subst hk4
              obtain ⟨m, hm60, em⟩ : ∃ m : Nat, m < 60 ∧ (IntKind.u64.wrap an).tmod 60 = (m : Int) := by
                have h0 : 0 ≤ IntKind.u64.wrap an := by rw [IntKind.wrap_u64]; omega
                refine ⟨((IntKind.u64.wrap an).tmod 60).toNat, ?_, ?_⟩ <;> rw [Int.tmod_eq_emod_of_nonneg h0] <;> omega
              have em2 : IntKind.u64.wrap an % 60 = (m : Int) := by
                have h0 : 0 ≤ IntKind.u64.wrap an := by rw [IntKind.wrap_u64]; omega
                rw [← em, Int.tmod_eq_emod_of_nonneg h0]
              have e1 : IntKind.i64.wrap (m : Int) = m := IntWalk.i64_in _ (by omega)
              have e2 : IntKind.i64.wrap (1 + (m : Int)) = ((m + 1 : Nat) : Int) := by rw [IntWalk.i64_in _ (by omega)]; omega
              have AR := Lib.hid (vk_arm HKB.out (m + 1) aK aT aB (by omega))
              go_wp2_with fail
              refine AR.out.mono ?_
              rintro e w5 ⟨rfl, d5, h5⟩
              have H5 := Lib.hid h5
              clear h5 AR y0 y1 y2 y3 y4 y5
              go_wp2_with fail
              go_meet
              exact .inl ⟨rfl, J, half, t, _, d5, img, _, H5.out⟩
            · by_cases k0 : 0 ≤ ak
              · have k2 : ¬ ak ≤ 2 := fun h => hk2 ⟨k0, h⟩
                have CR := Lib.hid (vk_crash HKB.out aK aT aB hi25)
                go_wp2_with fail
                refine CR.out.mono ?_
                rintro e w5 ⟨rfl, d5, h5⟩
                have H5 := Lib.hid h5
                clear h5 CR y0 y1 y2 y3 y4 y5
                go_wp2_with fail
                go_meet
                exact .inr ⟨rfl, _, d5, t, img, chs, by have := HK0.out; omega, H5.out⟩
              · have k2 : True := trivial
                have CR := Lib.hid (vk_crash HKB.out aK aT aB hi25)
                go_wp2_with fail
                refine CR.out.mono ?_
                rintro e w5 ⟨rfl, d5, h5⟩
                have H5 := Lib.hid h5
                clear h5 CR y0 y1 y2 y3 y4 y5
                go_wp2_with fail
                go_meet
                exact .inr ⟨rfl, _, d5, t, img, chs, by have := HK0.out; omega, H5.out⟩
      case rest =>
        clear HKB HWR HAB HDB
        rcases hcut with ⟨rfl, J5, h5, t5, K5, d5, img5, chs5, hv5⟩ | ⟨rfl, K5, d5, T5, img5, chs5, hT, hcs⟩
        · have HV5 := Lib.hid hv5
          clear hv5
          go_wp2_with fail
          exact ⟨⟨i + 1, by omega, rfl, V, J5, h5, t5, K5, d5, img5, chs5, rfl, HV5.out⟩, by simp only [intOf]; omega⟩
        · have UP := Lib.hid (cs_up hcs)
          clear hcs
          go_wp2_with fail
          refine UP.out.mono ?_
          rintro e wo ⟨rfl, hcs⟩
          have OPN := Lib.hid (cs_open hcs rfl rfl)
          clear hcs UP
          go_wp2_with fail
          refine OPN.out.mono ?_
          rintro e w4 ⟨iv2, cv2, r, rs, rfl, hop⟩
          have OP4 := Lib.hid hop
          clear hop OPN
          obtain ⟨b1, hb1, s1⟩ := op_same1 OP4.out
          have S1 := Lib.hid s1
          have W1 := Lib.hid hb1
          clear s1 hb1
          go_wp2_with fail
          refine S1.out.mono ?_
          rintro e w5 ⟨rfl, c5⟩
          have OP5 := Lib.hid (OP4.out.same c5)
          clear c5 OP4
          go_upto_region 46 with fail
          go_cut [20] from 165 to 183 (fun s wx => ∃ b2 : Bool, s = .bool b2 ∧ Hid (b1 = true ∨ b2 = true) ∧ Hid (Chg (fun _ => False) w5 wx))
          case first =>
            rcases op_now OP5.out with ⟨rfl, b2, hb2, s2⟩ | ⟨p, q, c, rfl, b2, hb2, s2⟩
            · have S2 := Lib.hid s2
              have HB : Hid (b1 = true ∨ b2 = true) := hb2.imp W1.out id
              clear s2 hb2
              have eqb := fun w => eqn_bytes w none 0 0
              have neb := fun w => neqn_bytes w none 0 0
              cases b2
              · skip
                go_wp2_with fail
                refine S2.out.mono ?_
                rintro e w6 ⟨rfl, c6⟩
                have C6 := Lib.hid c6
                clear c6
                go_wp2_with fail
                go_meet
                exact ⟨_, rfl, HB, C6⟩
              · skip
                go_wp2_with fail
                refine S2.out.mono ?_
                rintro e w6 ⟨rfl, c6⟩
                have C6 := Lib.hid c6
                clear c6
                go_wp2_with fail
                go_meet
                exact ⟨_, rfl, Lib.hid (Or.inr rfl), C6⟩
            · have S2 := Lib.hid s2
              have HB : Hid (b1 = true ∨ b2 = true) := hb2.imp W1.out id
              clear s2 hb2
              have eqb := fun w => eqn_bytes w (some p) q c
              have neb := fun w => neqn_bytes w (some p) q c
              go_wp2_with fail
              refine S2.out.mono ?_
              rintro e w6 ⟨rfl, c6⟩
              have C6 := Lib.hid c6
              clear c6
              go_wp2_with fail
              go_meet
              exact ⟨_, rfl, HB, C6⟩
          case rest =>
            obtain ⟨b2, rfl, HB, C6⟩ := hcut
            have OP6 := Lib.hid (OP5.out.same C6.out)
            obtain ⟨w6, hw6⟩ : ∃ w6, w6 = wc := ⟨_, rfl⟩
            obtain ⟨bh6, bt6, vc6, _⟩ := OP6.out.vc
            have VC6 := Lib.hid vc6
            clear vc6
            subst hw6
            rcases HB.out with rfl | rfl
            · skip
              clear S1 W1 OP5
              have kc := conv_const10
              have VC := Lib.hid (fun w' (c : Chg (fun _ => False) w6 w') => vcommit_none w' wo.heap.size D _ _ (.slice (some ⟨w6.heap.size, 0, none⟩) 1 1) (VC6.out.kept c (fun h => h)))
              go_wp2_with fail
              refine (VC.out _ (((Chg.refl (fun _ => False) w6).alloc _))).mono ?_
              rintro e w' ⟨rfl, rfl⟩
              have OP7 := Lib.hid (OP6.out.same (((Chg.refl (fun _ => False) w6).alloc (.cells #[.int .u8 97] 5 (1, 2)))))
              have WH := Lib.hid (whole11 iv2 cv2 r rs _ OP7.out.r2 OP7.out.rs2 OP7.out.lrs OP7.out.lx OP7.out.lr)
              clear kc
              go_wp2_with fail
              refine WH.out.mono ?_
              rintro e w8 ⟨nv, rfl, hnv, hnf, c8⟩
              have OP8 := Lib.hid (OP7.out.same c8)
              have SL := Lib.hid (op_seal (i := i) OP8.out hnv (fun k hk => by have h1 := hnf k hk; have h2 := OP7.out.lt; omega) (wholeL_len r rs) hT hi25)
              clear hnv hnf c8 WH
              go_wp2_with fail
              refine SL.out.mono ?_
              rintro e w9 ⟨rfl, J9, h9, t9, d9, hv9⟩
              have HV9 := Lib.hid hv9
              clear hv9 SL
              go_wp2_with fail
              exact ⟨⟨i + 1, by omega, rfl, wo.heap.size, J9, h9, t9, _, d9, _, [], rfl, HV9.out⟩, by simp only [intOf]; omega⟩
            · cases b1
              · skip
                clear S1 W1 OP5
                have kc := conv_const10
                have VC := Lib.hid (fun w' (c : Chg (fun _ => False) w6 w') => vcommit_none w' wo.heap.size D _ _ (.slice (some ⟨w6.heap.size, 0, none⟩) 1 1) (VC6.out.kept c (fun h => h)))
                go_wp2_with fail
                refine (VC.out _ (((Chg.refl (fun _ => False) w6).alloc _))).mono ?_
                rintro e w' ⟨rfl, rfl⟩
                have OP7 := Lib.hid (OP6.out.same (((Chg.refl (fun _ => False) w6).alloc (.cells #[.int .u8 97] 5 (1, 2)))))
                have WH := Lib.hid (whole11 iv2 cv2 r rs _ OP7.out.r2 OP7.out.rs2 OP7.out.lrs OP7.out.lx OP7.out.lr)
                clear kc
                go_wp2_with fail
                refine WH.out.mono ?_
                rintro e w8 ⟨nv, rfl, hnv, hnf, c8⟩
                have OP8 := Lib.hid (OP7.out.same c8)
                have SL := Lib.hid (op_seal (i := i) OP8.out hnv (fun k hk => by have h1 := hnf k hk; have h2 := OP7.out.lt; omega) (wholeL_len r rs) hT hi25)
                clear hnv hnf c8 WH
                go_wp2_with fail
                refine SL.out.mono ?_
                rintro e w9 ⟨rfl, J9, h9, t9, d9, hv9⟩
                have HV9 := Lib.hid hv9
                clear hv9 SL
                go_wp2_with fail
                exact ⟨⟨i + 1, by omega, rfl, wo.heap.size, J9, h9, t9, _, d9, _, [], rfl, HV9.out⟩, by simp only [intOf]; omega⟩
              · skip
                clear S1 W1 OP5
                have kc := conv_const10
                have VC := Lib.hid (fun w' (c : Chg (fun _ => False) w6 w') => vcommit_none w' wo.heap.size D _ _ (.slice (some ⟨w6.heap.size, 0, none⟩) 1 1) (VC6.out.kept c (fun h => h)))
                go_wp2_with fail
                refine (VC.out _ (((Chg.refl (fun _ => False) w6).alloc _))).mono ?_
                rintro e w' ⟨rfl, rfl⟩
                have OP7 := Lib.hid (OP6.out.same (((Chg.refl (fun _ => False) w6).alloc (.cells #[.int .u8 97] 5 (1, 2)))))
                have WH := Lib.hid (whole11 iv2 cv2 r rs _ OP7.out.r2 OP7.out.rs2 OP7.out.lrs OP7.out.lx OP7.out.lr)
                clear kc
                go_wp2_with fail
                refine WH.out.mono ?_
                rintro e w8 ⟨nv, rfl, hnv, hnf, c8⟩
                have OP8 := Lib.hid (OP7.out.same c8)
                have SL := Lib.hid (op_seal (i := i) OP8.out hnv (fun k hk => by have h1 := hnf k hk; have h2 := OP7.out.lt; omega) (wholeL_len r rs) hT hi25)
                clear hnv hnf c8 WH
                go_wp2_with fail
                refine SL.out.mono ?_
                rintro e w9 ⟨rfl, J9, h9, t9, d9, hv9⟩
                have HV9 := Lib.hid hv9
                clear hv9 SL
                go_wp2_with fail
                exact ⟨⟨i + 1, by omega, rfl, wo.heap.size, J9, h9, t9, _, d9, _, [], rfl, HV9.out⟩, by simp only [intOf]; omega⟩

    · obtain rfl : i = n := by omega
      have DN := Lib.hid (dj_down w wr D d _ HK.out.dj)
      have dn : d.down = false := HK.out.dn
      have OPN := Lib.hid (vk_open HK.out (by omega))
      rw [dn] at DN
      clear hK dn
      go_wp2_with fail
      refine DN.out.mono ?_
      rintro e w' ⟨rfl, rfl⟩
      go_wp2_with fail
      refine OPN.out.mono ?_
      rintro e w4 ⟨iv2, cv2, p2, rfl, c4, s4⟩
      have C4 := Lib.hid (CH.out.trans c4)
      have S4 := Lib.hid s4
      clear c4 s4 OPN DN
      go_wp2_with fail
      refine S4.out.mono ?_
      rintro e w5 ⟨rfl, c5⟩
      have C5 := Lib.hid (C4.out.trans c5)
      clear c5
      go_wp2_with fail
      go_ret
      exact ⟨rfl, C5.out⟩
end Go.Proofs.Ytjhkhdockiocgaa
