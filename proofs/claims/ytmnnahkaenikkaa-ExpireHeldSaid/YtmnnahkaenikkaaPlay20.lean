/- Law 20: same, PurgeForgets' closure, play. -/
import Derived.Test.YtmnnahkaenikkaaAct16
namespace Go.Proofs.Ytmnnahkaenikkaa
open Go.RowKit Go.Cat
def playS (g : Pt → Pt) (s : St) (a : Act16) : St := if a.kind = 0 ∨ a.kind = 1 ∨ a.kind = 2 then (s.put (a.l.map g)).2.2 else if a.kind = 3 ∨ a.kind = 4 then (s.roll a.at_).2.2 else if a.kind = 5 then (s.purge a.lo a.hi).2 else s
def playL (g : Pt → Pt) (L : List Act16) : St := L.foldl (playS g) St.new
/-- A function of points. -/
def FunAs (w : World) (fid : Nat) (caps : Array Value) (g : Pt → Pt) : Prop := ∀ W p, Chg (fun _ => False) w W → Calls Try.prog fid (#[.agg #[.int .i64 p.tk, .int .i64 p.val]] ++ caps) W fun e w' => e = .returned (.agg #[.int .i64 (g p).tk, .int .i64 (g p).val]) ∧ Chg (fun _ => False) W w'
set_option maxRecDepth 100000 in
theorem same_fun (w : World) : FunAs w 10 #[] id := fun W p _ => by
  obtain ⟨x3, hx3⟩ : ∃ x, x = (W.alloc (.cells #[.int .i64 p.tk, .int .i64 p.val] 32)).alloc (.cells #[.int .i64 0, .int .i64 0] 32) := ⟨_, rfl⟩
  have hr3 : x3.heap[W.heap.size + 1]? = some (.cells #[.int .i64 0, .int .i64 0] 32 (0, 0)) := by rw [hx3]; exact heap_at_new _ _ _ (by simp)
  have c3 : Chg (fun _ => False) W x3 := by rw [hx3]; exact ((Chg.refl _ W).alloc _).alloc _
  have hst := run_storeAt_agg (P := Try.prog) x3 32 (W.heap.size + 1) 0 [.int .i64 p.tk, .int .i64 p.val] (by kernel_rfl) (fun j hj => row_some hr3 j hj) (fun j _ => frozen_of_heap hr3 _) (by intro u hu; simp at hu; rcases hu with rfl | rfl <;> rfl)
  have hr8 : (x3.setCells (W.heap.size + 1) 0 [.int .i64 p.tk, .int .i64 p.val]).heap[W.heap.size + 1]? = some (.cells #[.int .i64 p.tk, .int .i64 p.val] 32 (0, 0)) := Cat.heap_setCell_same (Cat.heap_setCell_same hr3 0 _) 1 _
  obtain ⟨x8, hx8⟩ : ∃ x8, x8 = x3.setCells (W.heap.size + 1) 0 [.int .i64 p.tk, .int .i64 p.val] := ⟨_, rfl⟩
  have c8 : Chg (fun _ => False) W x8 := by rw [hx8]; exact c3.new (Chg.setCells _ (W.heap.size + 1) _ _) (fun q hq => by omega)
  rw [← hx8] at hst hr8
  rw [hx3] at hst
  have HR8 := Lib.hid hr8
  have C8 := Lib.hid c8
  clear hx3 hr3 c3 hr8 hx8 c8
  show Calls _ _ #[.agg #[.int .i64 p.tk, .int .i64 p.val]] W _
  go_enter Try.func10, Try.ntmps10
  go_wp2_with (first | refine wpList_store rfl 32 _ _ rfl _ _ _ rfl rfl hst ?_)
  exact bodyPost_ret (v := .agg #[.int .i64 p.tk, .int .i64 p.val]) (results_cell_row (fn := Try.f10) (p := 2) (ty := 32) rfl _ _ (W.heap.size + 1) _ _ (0, 0) _ rfl HR8.out Try.underlying32 rfl (by kernel_rfl)) rfl ⟨rfl, C8.out⟩
set_option maxRecDepth 100000 in
set_option maxHeartbeats 20000000 in
theorem play_same (w : World) (v : Value) (L : List Act16) (g : Pt → Pt) (h : Acts16 w v L) (hfew : ∀ a ∈ L, a.l.length ≤ 40) (hl : L.length ≤ 1000) (hg : FunAs w 10 #[] g) :
    Calls Try.prog 9 #[v, .func (.func 10) #[] #[]] w fun e w' => ∃ R, e = .returned (.pointer (some ⟨R, 0, none⟩)) ∧ StIs w' (fun k => w.heap.size ≤ k ∧ k < w'.heap.size) R (playL g L) ∧ Chg (fun _ => False) w w' := by
  obtain ⟨va, vc, rfl⟩ := Reads.form h.rd
  obtain ⟨n, hn⟩ : ∃ n, n = L.length := ⟨_, rfl⟩
  have HN := Lib.hid hn
  have HR : Hid (Reads w 5 (.slice va n vc) n (L.flatMap Act16.cells)) := by have := h.rd; rw [← hn] at this; exact this
  have H := Lib.hid h
  have HG := Lib.hid hg
  have HFW := Lib.hid hfew
  rw [← hn] at hl ⊢
  clear h hn hg hfew
  go_enter Try.func9, Try.ntmps9
  go_wp2_with fail
  refine (newst_c w).mono ?_
  rintro e w1 ⟨R, rfl, hs1, c1⟩
  have HS1 := Lib.hid hs1
  have C1 := Lib.hid c1
  clear hs1 c1
  go_wp2_with fail
  go_loopw [14] (fun ci wr => ∃ k : Nat, k ≤ n ∧ ci = .int .i64 k ∧ Hid (StIs wr (fun q => w.heap.size ≤ q ∧ q < wr.heap.size) R (playL g (L.take k))) ∧ Hid (Chg (fun _ => False) w wr)) (fun ci _ => n - (intOf ci).toNat)
  case atStart => exact ⟨0, by omega, rfl, HS1.out, C1.out⟩
  case round =>
    obtain ⟨k, hk, rfl, hS, hC⟩ := hrel
    clear HS1 C1
    by_cases hlt : k < n
    · obtain ⟨p, hp⟩ := at_lt (show k < L.length by rw [← HN.out]; exact hlt)
      obtain ⟨g', o, rfl, g1, g2, g3⟩ := reads_some (n := n) HR.out (by omega)
      have hld := load_act wr (fun j u hj => hC.out.cell (g3 j u hj) (fun h => h)) hp
      have hpm := List.mem_of_getElem? hp
      have hpz := (H.out.pts p hpm).same hC.out
      obtain ⟨pa, pc, hlv⟩ := hpz.form
      rw [hlv] at hld hpz
      obtain ⟨s, hs⟩ : ∃ s, s = playL g (L.take k) := ⟨_, rfl⟩
      have e1 : playL g (L.take (k + 1)) = playS g s p := by rw [List.take_add_one, hp, hs]; unfold playL; rw [List.foldl_append]; rfl
      rw [← hs] at hS
      obtain ⟨m, hm⟩ : ∃ m, m = p.l.length := ⟨_, rfl⟩
      have hm40 : m ≤ 40 := by rw [hm]; exact HFW.out p hpm
      have hat := Lib.hid (H.out.ats p hpm)
      rw [← hm] at hld hpz
      obtain ⟨Wb, hWb⟩ : ∃ W, W = wr.alloc (.cells #[.int .i64 p.kind, .int .i64 p.at_, .slice pa m pc, .int .i64 p.lo, .int .i64 p.hi] 72) := ⟨_, rfl⟩
      have cb : Chg (fun _ => False) wr Wb := by rw [hWb]; exact (Chg.refl _ wr).alloc _
      have zb : Wb.heap.size = wr.heap.size + 1 := by rw [hWb]; simp
      have q0 : Wb.cell? ⟨wr.heap.size, 0, none⟩ = some (.int .i64 p.kind) := by rw [hWb, World.cell?_alloc_new]; rfl
      have q1 : Wb.cell? ⟨wr.heap.size, 1, none⟩ = some (.int .i64 p.at_) := by rw [hWb, World.cell?_alloc_new]; rfl
      have q2 : Wb.cell? ⟨wr.heap.size, 2, none⟩ = some (.slice pa m pc) := by rw [hWb, World.cell?_alloc_new]; rfl
      have q3 : Wb.cell? ⟨wr.heap.size, 3, none⟩ = some (.int .i64 p.lo) := by rw [hWb, World.cell?_alloc_new]; rfl
      have q4 : Wb.cell? ⟨wr.heap.size, 4, none⟩ = some (.int .i64 p.hi) := by rw [hWb, World.cell?_alloc_new]; rfl
      have E1 := Lib.hid e1
      have HPZ := Lib.hid (hpz.same cb)
      have HM := Lib.hid hm
      have HS := Lib.hid (hS.out.same cb)
      have CB := Lib.hid cb
      have ZB := Lib.hid zb
      have HWB := Lib.hid hWb
      have CWB := Lib.hid (hC.out.trans cb)
      rw [hWb] at q0 q1 q2 q3 q4
      obtain ⟨kd, hkd⟩ : ∃ kd, kd = p.kind := ⟨_, rfl⟩
      rw [← hkd] at q0 hld hWb
      have HKD := Lib.hid hkd
      have FIN : Hid (∀ (w2 : World) (s2 : St), StIs w2 (ext (fun q => w.heap.size ≤ q ∧ q < wr.heap.size) Wb w2) R s2 → Chg (fun q => w.heap.size ≤ q ∧ q < wr.heap.size) Wb w2 → playS g s p = s2 → Hid (StIs w2 (fun q => w.heap.size ≤ q ∧ q < w2.heap.size) R (playL g (L.take (k + 1)))) ∧ Hid (Chg (fun _ => False) w w2)) := fun w2 s2 h2 c2 e2 => by
        have z1 := hC.out.size
        have z2 := ZB.out
        have z3 := c2.size
        refine ⟨?_, (CWB.out).new c2 (fun q hq => hq.1)⟩
        show StIs _ _ _ _
        rw [E1.out, e2]
        exact h2.mono (fun q hq => by
          rcases hq with hq | hq
          · exact ⟨hq.1, by omega⟩
          · exact ⟨by omega, hq.2⟩)
      clear g1 g2 g3 hp hpm hlv hpz hs e1 hm cb zb hS hkd
      rw [← HKD.out] at q1 q2 q3 q4
      by_cases k012 : kd = 0 ∨ kd = 1 ∨ kd = 2
      · have eS : Hid (playS g s p = (s.put (p.l.map g)).2.2) := by
          show _ = _
          unfold playS
          rw [← HKD.out, if_pos k012]
        rcases k012 with rfl | rfl | rfl
        · skip
          go_wp2_with (first | refine wpList_load rfl 72 _ rfl _ _ rfl hld ?_)
          rw [← hWb]
          go_loopw [8, 27] (fun ov ci wr => ∃ j : Nat, j ≤ m ∧ ci = .int .i64 j ∧ Hid (OPts wr ov ((p.l.take j).map g)) ∧ Hid (∀ q, ov.ownBlock = some q → Wb.heap.size ≤ q) ∧ Hid (Chg (fun _ => False) Wb wr)) (fun _ ci _ => m - (intOf ci).toNat)
          case atStart => exact ⟨0, by omega, rfl, Owns.nil _ _, by simp [Hid, Value.ownBlock], Chg.refl _ _⟩
          case round =>
            obtain ⟨j, hj, rfl, hO, hF, hC2⟩ := hrel
            by_cases hjm : j < m
            · obtain ⟨x, hx⟩ := at_lt (show j < p.l.length by rw [← HM.out]; exact hjm)
              have hPT : Pts Wb (.slice pa m pc) p.l := by
                rcases HPZ.out with h | ⟨h, _⟩
                · exact h
                · have := HM.out; rw [h] at this; simp at this; omega
              obtain ⟨gg, oo, rfl, f1, f2, f3⟩ := reads_some (n := m) (by have := hPT; unfold Pts at this; rw [← HM.out] at this; exact this) (by omega)
              have hld2 := load_pt wr (fun jj u hj => hC2.out.cell (f3 jj u hj) (fun h => h)) hx
              obtain ⟨Wx, hWx⟩ : ∃ W, W = wr.alloc (.cells #[.int .i64 x.tk, .int .i64 x.val] 32) := ⟨_, rfl⟩
              have cx : Chg (fun _ => False) wr Wx := by rw [hWx]; exact (Chg.refl _ wr).alloc _
              have GC := Lib.hid (HG.out Wx x (CWB.out.trans (hC2.out.trans cx)))
              have e2 : (p.l.take (j + 1)).map g = (p.l.take j).map g ++ [g x] := by rw [List.take_add_one, hx, List.map_append]; rfl
              obtain ⟨Aj, hAj⟩ : ∃ A, A = (p.l.take j).map g := ⟨_, rfl⟩
              rw [← hAj] at hO e2
              have hAl : Aj.length = j := by rw [hAj, List.length_map, List.length_take, ← HM.out]; omega
              have E2 := Lib.hid e2
              have CX := Lib.hid cx
              have HAL := Lib.hid hAl
              obtain ⟨oa, oc, hov⟩ := (hO.out).form
              have hO' : Hid (Owns wr 2 (.slice oa j oc) j (Aj.flatMap Pt.cells)) := by
                have h := hO.out
                unfold OPts at h
                rw [hov, hAl] at h
                exact h
              rw [hAl] at hov
              have x0 : Wx.cell? ⟨wr.heap.size, 0, none⟩ = some (.int .i64 x.tk) := by rw [hWx, World.cell?_alloc_new]; rfl
              have x1 : Wx.cell? ⟨wr.heap.size, 1, none⟩ = some (.int .i64 x.val) := by rw [hWx, World.cell?_alloc_new]; rfl
              replace hWx := hWx.symm
              subst hov
              clear cx e2 hAj f1 f2 f3 hx hPT q0 q1 q2 q3 q4 hld hAl
              go_wp2_with (first | refine wpList_load rfl 32 _ rfl _ _ rfl hld2 ?_)
              refine GC.out.mono ?_
              rintro e w3 ⟨rfl, c3⟩
              have C3 := Lib.hid (CX.out.trans c3)
              have ow : Hid (Owns w3 2 (.slice oa j oc) j (Aj.flatMap Pt.cells)) := Owns.kept hO'.out (CX.out.trans c3) (fun _ _ h => h)
              have A1 : Hid (∀ u ∈ [Value.int .i64 (g x).tk, .int .i64 (g x).val], u.oneCell' = true) := fun u hu => ptone [g x] u (by simpa [Pt.cells] using hu)
              clear c3 hld2 x0 x1
              go_wp2_with (at_builtin; go_loud (refine wpList_app_one rfl _ _ 49 rfl 32 (.agg #[.int .i64 0, .int .i64 0]) 2 16 Try.underlying49 infoPt rfl (.slice oa j oc) j (Aj.flatMap Pt.cells) [.int .i64 (g x).tk, .int .i64 (g x).val] _ rfl rfl ow.out rfl A1.out (by simp only [maxLen]; omega) (by omega) ?_; intro v' w' own' c' in' nn'; refine Hid.out ?_))
              obtain ⟨va', vc', rfl⟩ := own'.form
              have O4 := Lib.hid own'
              have C4 := Lib.hid c'
              have I4 := Lib.hid in'
              clear own' c' in' nn'
              refine Lib.hid ?_
              go_wp2_with fail
              refine ⟨⟨j + 1, by omega, rfl, ?_, fun q hq => ?_, (hC2.out.trans C3.out).new C4.out (fun q hq => hF.out q hq)⟩, by simp only [intOf]; omega⟩
              · have h := O4.out
                show Owns _ _ _ _ _
                rw [E2.out, List.flatMap_append, List.length_append, HAL.out]
                exact h
              · rcases I4.out q hq with h | h
                · exact hF.out q h
                · have := hC2.out.size; have := C3.out.size; omega
            · obtain rfl : j = m := by omega
              obtain ⟨M, hM⟩ : ∃ M, M = p.l.map g := ⟨_, rfl⟩
              have e2 : (p.l.take j).map g = M := by rw [hM, HM.out, List.take_length]
              have hO2 := hO.out
              rw [e2] at hO2
              have hML : M.length ≤ 40 := by rw [hM, List.length_map, ← HM.out]; exact hm40
              have eS := eS.out
              rw [← hM] at eS
              have ES := Lib.hid eS
              obtain ⟨oa, oc, hov⟩ := hO2.form
              have PC := Lib.hid (stput_c wr _ R s u8 M (HS.out.same hC2.out) hO2.reads (by omega))
              subst hov
              have hC3 := Lib.hid hC2.out
              clear hO2 e2 q0 q1 q2 q3 q4 hld hM eS
              go_wp2_with fail
              refine PC.out.mono ?_
              rintro e w2 ⟨rfl, h2, c2⟩
              have z1 := hC3.out.size
              have z2 := ZB.out
              obtain ⟨F1, F2⟩ := FIN.out w2 _ (h2.mono (fun q hq => by
                rcases hq with h | h
                · exact .inl h
                · exact .inr ⟨by omega, h.2⟩)) ((hC3.out.mono (fun _ _ h => h.elim)).trans c2) ES.out
              clear h2 c2 z1 z2
              go_wp2_with fail
              exact ⟨⟨k + 1, by omega, rfl, F1.out, F2.out⟩, by simp only [intOf]; omega⟩
        · skip
          go_wp2_with (first | refine wpList_load rfl 72 _ rfl _ _ rfl hld ?_)
          rw [← hWb]
          go_loopw [8, 27] (fun ov ci wr => ∃ j : Nat, j ≤ m ∧ ci = .int .i64 j ∧ Hid (OPts wr ov ((p.l.take j).map g)) ∧ Hid (∀ q, ov.ownBlock = some q → Wb.heap.size ≤ q) ∧ Hid (Chg (fun _ => False) Wb wr)) (fun _ ci _ => m - (intOf ci).toNat)
          case atStart => exact ⟨0, by omega, rfl, Owns.nil _ _, by simp [Hid, Value.ownBlock], Chg.refl _ _⟩
          case round =>
            obtain ⟨j, hj, rfl, hO, hF, hC2⟩ := hrel
            by_cases hjm : j < m
            · obtain ⟨x, hx⟩ := at_lt (show j < p.l.length by rw [← HM.out]; exact hjm)
              have hPT : Pts Wb (.slice pa m pc) p.l := by
                rcases HPZ.out with h | ⟨h, _⟩
                · exact h
                · have := HM.out; rw [h] at this; simp at this; omega
              obtain ⟨gg, oo, rfl, f1, f2, f3⟩ := reads_some (n := m) (by have := hPT; unfold Pts at this; rw [← HM.out] at this; exact this) (by omega)
              have hld2 := load_pt wr (fun jj u hj => hC2.out.cell (f3 jj u hj) (fun h => h)) hx
              obtain ⟨Wx, hWx⟩ : ∃ W, W = wr.alloc (.cells #[.int .i64 x.tk, .int .i64 x.val] 32) := ⟨_, rfl⟩
              have cx : Chg (fun _ => False) wr Wx := by rw [hWx]; exact (Chg.refl _ wr).alloc _
              have GC := Lib.hid (HG.out Wx x (CWB.out.trans (hC2.out.trans cx)))
              have e2 : (p.l.take (j + 1)).map g = (p.l.take j).map g ++ [g x] := by rw [List.take_add_one, hx, List.map_append]; rfl
              obtain ⟨Aj, hAj⟩ : ∃ A, A = (p.l.take j).map g := ⟨_, rfl⟩
              rw [← hAj] at hO e2
              have hAl : Aj.length = j := by rw [hAj, List.length_map, List.length_take, ← HM.out]; omega
              have E2 := Lib.hid e2
              have CX := Lib.hid cx
              have HAL := Lib.hid hAl
              obtain ⟨oa, oc, hov⟩ := (hO.out).form
              have hO' : Hid (Owns wr 2 (.slice oa j oc) j (Aj.flatMap Pt.cells)) := by
                have h := hO.out
                unfold OPts at h
                rw [hov, hAl] at h
                exact h
              rw [hAl] at hov
              have x0 : Wx.cell? ⟨wr.heap.size, 0, none⟩ = some (.int .i64 x.tk) := by rw [hWx, World.cell?_alloc_new]; rfl
              have x1 : Wx.cell? ⟨wr.heap.size, 1, none⟩ = some (.int .i64 x.val) := by rw [hWx, World.cell?_alloc_new]; rfl
              replace hWx := hWx.symm
              subst hov
              clear cx e2 hAj f1 f2 f3 hx hPT q0 q1 q2 q3 q4 hld hAl
              go_wp2_with (first | refine wpList_load rfl 32 _ rfl _ _ rfl hld2 ?_)
              refine GC.out.mono ?_
              rintro e w3 ⟨rfl, c3⟩
              have C3 := Lib.hid (CX.out.trans c3)
              have ow : Hid (Owns w3 2 (.slice oa j oc) j (Aj.flatMap Pt.cells)) := Owns.kept hO'.out (CX.out.trans c3) (fun _ _ h => h)
              have A1 : Hid (∀ u ∈ [Value.int .i64 (g x).tk, .int .i64 (g x).val], u.oneCell' = true) := fun u hu => ptone [g x] u (by simpa [Pt.cells] using hu)
              clear c3 hld2 x0 x1
              go_wp2_with (at_builtin; go_loud (refine wpList_app_one rfl _ _ 49 rfl 32 (.agg #[.int .i64 0, .int .i64 0]) 2 16 Try.underlying49 infoPt rfl (.slice oa j oc) j (Aj.flatMap Pt.cells) [.int .i64 (g x).tk, .int .i64 (g x).val] _ rfl rfl ow.out rfl A1.out (by simp only [maxLen]; omega) (by omega) ?_; intro v' w' own' c' in' nn'; refine Hid.out ?_))
              obtain ⟨va', vc', rfl⟩ := own'.form
              have O4 := Lib.hid own'
              have C4 := Lib.hid c'
              have I4 := Lib.hid in'
              clear own' c' in' nn'
              refine Lib.hid ?_
              go_wp2_with fail
              refine ⟨⟨j + 1, by omega, rfl, ?_, fun q hq => ?_, (hC2.out.trans C3.out).new C4.out (fun q hq => hF.out q hq)⟩, by simp only [intOf]; omega⟩
              · have h := O4.out
                show Owns _ _ _ _ _
                rw [E2.out, List.flatMap_append, List.length_append, HAL.out]
                exact h
              · rcases I4.out q hq with h | h
                · exact hF.out q h
                · have := hC2.out.size; have := C3.out.size; omega
            · obtain rfl : j = m := by omega
              obtain ⟨M, hM⟩ : ∃ M, M = p.l.map g := ⟨_, rfl⟩
              have e2 : (p.l.take j).map g = M := by rw [hM, HM.out, List.take_length]
              have hO2 := hO.out
              rw [e2] at hO2
              have hML : M.length ≤ 40 := by rw [hM, List.length_map, ← HM.out]; exact hm40
              have eS := eS.out
              rw [← hM] at eS
              have ES := Lib.hid eS
              obtain ⟨oa, oc, hov⟩ := hO2.form
              have PC := Lib.hid (stput_c wr _ R s u8 M (HS.out.same hC2.out) hO2.reads (by omega))
              subst hov
              have hC3 := Lib.hid hC2.out
              clear hO2 e2 q0 q1 q2 q3 q4 hld hM eS
              go_wp2_with fail
              refine PC.out.mono ?_
              rintro e w2 ⟨rfl, h2, c2⟩
              have z1 := hC3.out.size
              have z2 := ZB.out
              obtain ⟨F1, F2⟩ := FIN.out w2 _ (h2.mono (fun q hq => by
                rcases hq with h | h
                · exact .inl h
                · exact .inr ⟨by omega, h.2⟩)) ((hC3.out.mono (fun _ _ h => h.elim)).trans c2) ES.out
              clear h2 c2 z1 z2
              go_wp2_with fail
              exact ⟨⟨k + 1, by omega, rfl, F1.out, F2.out⟩, by simp only [intOf]; omega⟩
        · skip
          go_wp2_with (first | refine wpList_load rfl 72 _ rfl _ _ rfl hld ?_)
          rw [← hWb]
          go_loopw [8, 27] (fun ov ci wr => ∃ j : Nat, j ≤ m ∧ ci = .int .i64 j ∧ Hid (OPts wr ov ((p.l.take j).map g)) ∧ Hid (∀ q, ov.ownBlock = some q → Wb.heap.size ≤ q) ∧ Hid (Chg (fun _ => False) Wb wr)) (fun _ ci _ => m - (intOf ci).toNat)
          case atStart => exact ⟨0, by omega, rfl, Owns.nil _ _, by simp [Hid, Value.ownBlock], Chg.refl _ _⟩
          case round =>
            obtain ⟨j, hj, rfl, hO, hF, hC2⟩ := hrel
            by_cases hjm : j < m
            · obtain ⟨x, hx⟩ := at_lt (show j < p.l.length by rw [← HM.out]; exact hjm)
              have hPT : Pts Wb (.slice pa m pc) p.l := by
                rcases HPZ.out with h | ⟨h, _⟩
                · exact h
                · have := HM.out; rw [h] at this; simp at this; omega
              obtain ⟨gg, oo, rfl, f1, f2, f3⟩ := reads_some (n := m) (by have := hPT; unfold Pts at this; rw [← HM.out] at this; exact this) (by omega)
              have hld2 := load_pt wr (fun jj u hj => hC2.out.cell (f3 jj u hj) (fun h => h)) hx
              obtain ⟨Wx, hWx⟩ : ∃ W, W = wr.alloc (.cells #[.int .i64 x.tk, .int .i64 x.val] 32) := ⟨_, rfl⟩
              have cx : Chg (fun _ => False) wr Wx := by rw [hWx]; exact (Chg.refl _ wr).alloc _
              have GC := Lib.hid (HG.out Wx x (CWB.out.trans (hC2.out.trans cx)))
              have e2 : (p.l.take (j + 1)).map g = (p.l.take j).map g ++ [g x] := by rw [List.take_add_one, hx, List.map_append]; rfl
              obtain ⟨Aj, hAj⟩ : ∃ A, A = (p.l.take j).map g := ⟨_, rfl⟩
              rw [← hAj] at hO e2
              have hAl : Aj.length = j := by rw [hAj, List.length_map, List.length_take, ← HM.out]; omega
              have E2 := Lib.hid e2
              have CX := Lib.hid cx
              have HAL := Lib.hid hAl
              obtain ⟨oa, oc, hov⟩ := (hO.out).form
              have hO' : Hid (Owns wr 2 (.slice oa j oc) j (Aj.flatMap Pt.cells)) := by
                have h := hO.out
                unfold OPts at h
                rw [hov, hAl] at h
                exact h
              rw [hAl] at hov
              have x0 : Wx.cell? ⟨wr.heap.size, 0, none⟩ = some (.int .i64 x.tk) := by rw [hWx, World.cell?_alloc_new]; rfl
              have x1 : Wx.cell? ⟨wr.heap.size, 1, none⟩ = some (.int .i64 x.val) := by rw [hWx, World.cell?_alloc_new]; rfl
              replace hWx := hWx.symm
              subst hov
              clear cx e2 hAj f1 f2 f3 hx hPT q0 q1 q2 q3 q4 hld hAl
              go_wp2_with (first | refine wpList_load rfl 32 _ rfl _ _ rfl hld2 ?_)
              refine GC.out.mono ?_
              rintro e w3 ⟨rfl, c3⟩
              have C3 := Lib.hid (CX.out.trans c3)
              have ow : Hid (Owns w3 2 (.slice oa j oc) j (Aj.flatMap Pt.cells)) := Owns.kept hO'.out (CX.out.trans c3) (fun _ _ h => h)
              have A1 : Hid (∀ u ∈ [Value.int .i64 (g x).tk, .int .i64 (g x).val], u.oneCell' = true) := fun u hu => ptone [g x] u (by simpa [Pt.cells] using hu)
              clear c3 hld2 x0 x1
              go_wp2_with (at_builtin; go_loud (refine wpList_app_one rfl _ _ 49 rfl 32 (.agg #[.int .i64 0, .int .i64 0]) 2 16 Try.underlying49 infoPt rfl (.slice oa j oc) j (Aj.flatMap Pt.cells) [.int .i64 (g x).tk, .int .i64 (g x).val] _ rfl rfl ow.out rfl A1.out (by simp only [maxLen]; omega) (by omega) ?_; intro v' w' own' c' in' nn'; refine Hid.out ?_))
              obtain ⟨va', vc', rfl⟩ := own'.form
              have O4 := Lib.hid own'
              have C4 := Lib.hid c'
              have I4 := Lib.hid in'
              clear own' c' in' nn'
              refine Lib.hid ?_
              go_wp2_with fail
              refine ⟨⟨j + 1, by omega, rfl, ?_, fun q hq => ?_, (hC2.out.trans C3.out).new C4.out (fun q hq => hF.out q hq)⟩, by simp only [intOf]; omega⟩
              · have h := O4.out
                show Owns _ _ _ _ _
                rw [E2.out, List.flatMap_append, List.length_append, HAL.out]
                exact h
              · rcases I4.out q hq with h | h
                · exact hF.out q h
                · have := hC2.out.size; have := C3.out.size; omega
            · obtain rfl : j = m := by omega
              obtain ⟨M, hM⟩ : ∃ M, M = p.l.map g := ⟨_, rfl⟩
              have e2 : (p.l.take j).map g = M := by rw [hM, HM.out, List.take_length]
              have hO2 := hO.out
              rw [e2] at hO2
              have hML : M.length ≤ 40 := by rw [hM, List.length_map, ← HM.out]; exact hm40
              have eS := eS.out
              rw [← hM] at eS
              have ES := Lib.hid eS
              obtain ⟨oa, oc, hov⟩ := hO2.form
              have PC := Lib.hid (stput_c wr _ R s u8 M (HS.out.same hC2.out) hO2.reads (by omega))
              subst hov
              have hC3 := Lib.hid hC2.out
              clear hO2 e2 q0 q1 q2 q3 q4 hld hM eS
              go_wp2_with fail
              refine PC.out.mono ?_
              rintro e w2 ⟨rfl, h2, c2⟩
              have z1 := hC3.out.size
              have z2 := ZB.out
              obtain ⟨F1, F2⟩ := FIN.out w2 _ (h2.mono (fun q hq => by
                rcases hq with h | h
                · exact .inl h
                · exact .inr ⟨by omega, h.2⟩)) ((hC3.out.mono (fun _ _ h => h.elim)).trans c2) ES.out
              clear h2 c2 z1 z2
              go_wp2_with fail
              exact ⟨⟨k + 1, by omega, rfl, F1.out, F2.out⟩, by simp only [intOf]; omega⟩
      · by_cases k3 : kd = 3 ∨ kd = 4
        · have eS : Hid (playS g s p = (s.roll p.at_).2.2) := by
            show _ = _
            unfold playS
            rw [← HKD.out, if_neg k012, if_pos k3]
          have RC := Lib.hid (stroll_c Wb _ R s p.at_ hat.out HS.out)
          have i0 : (kd == 0) = false := by simp; omega
          have i1 : (kd == 1) = false := by simp; omega
          have i2 : (kd == 2) = false := by simp; omega
          rcases k3 with rfl | rfl
          · go_wp2_with (first | refine wpList_load rfl 72 _ rfl _ _ rfl hld ?_)
            rw [← hWb]
            refine RC.out.mono ?_
            rintro e w2 ⟨rfl, h2, c2⟩
            obtain ⟨F1, F2⟩ := FIN.out w2 _ h2 c2 eS.out
            clear h2 c2
            go_wp2_with fail
            exact ⟨⟨k + 1, by omega, rfl, F1.out, F2.out⟩, by simp only [intOf]; omega⟩
          · go_wp2_with (first | refine wpList_load rfl 72 _ rfl _ _ rfl hld ?_)
            rw [← hWb]
            refine RC.out.mono ?_
            rintro e w2 ⟨rfl, h2, c2⟩
            obtain ⟨F1, F2⟩ := FIN.out w2 _ h2 c2 eS.out
            clear h2 c2
            go_wp2_with fail
            exact ⟨⟨k + 1, by omega, rfl, F1.out, F2.out⟩, by simp only [intOf]; omega⟩
        · have i0 : (kd == 0) = false := by simp; omega
          have i1 : (kd == 1) = false := by simp; omega
          have i2 : (kd == 2) = false := by simp; omega
          have i3 : (kd == 3) = false := by simp; omega
          have i4 : (kd == 4) = false := by simp; omega
          by_cases k5 : kd = 5
          · have eS : Hid (playS g s p = (s.purge p.lo p.hi).2) := by
              show _ = _
              unfold playS
              rw [← HKD.out, if_neg k012, if_neg k3, if_pos k5]
            have PC := Lib.hid (stpurge_c Wb _ R s p.lo p.hi HS.out)
            subst k5
            go_wp2_with (first | refine wpList_load rfl 72 _ rfl _ _ rfl hld ?_)
            rw [← hWb]
            refine PC.out.mono ?_
            rintro e w2 ⟨rfl, h2, c2⟩
            obtain ⟨F1, F2⟩ := FIN.out w2 _ h2 c2 eS.out
            clear h2 c2
            go_wp2_with fail
            exact ⟨⟨k + 1, by omega, rfl, F1.out, F2.out⟩, by simp only [intOf]; omega⟩
          · have eS : Hid (playS g s p = s) := by
              show _ = _
              unfold playS
              rw [← HKD.out, if_neg k012, if_neg k3, if_neg k5]
            have i5 : (kd == 5) = false := by simp; omega
            obtain ⟨F1, F2⟩ := FIN.out Wb _ HS.out.ext (Chg.refl _ _) eS.out
            go_wp2_with (first | refine wpList_load rfl 72 _ rfl _ _ rfl hld ?_)
            rw [← hWb]
            exact ⟨⟨k + 1, by omega, rfl, F1.out, F2.out⟩, by simp only [intOf]; omega⟩
    · obtain rfl : k = n := by omega
      have hS : Hid (StIs wr (fun q => w.heap.size ≤ q ∧ q < wr.heap.size) R (playL g L)) := by have h := hS.out; rw [HN.out, List.take_length] at h; exact h
      go_wp2_with fail
      go_ret
      exact ⟨R, rfl, hS.out, hC.out⟩
end Go.Proofs.Ytmnnahkaenikkaa
