/- json.Get of one pair; the walk of ReplyCodes. -/
import Derived.Test.YtmnnahkaenikkaaDoorReply3
import Derived.Laws.ResultCell
namespace Go.Cat
open Go.RowKit
theorem results_cell_tmp_row {P : Program} {fn : Func} {p u : Tmp} {ty : TypeId} (h : fn.results = #[.cell p ty, .tmp u]) (tmps : Array Value) (w : World) (g : Nat) (t : TypeId) (cs : Array Value) (fr : Nat × Nat) (d : TypeDesc)
    (hp : tmps.getD p undef = .pointer (some ⟨g, 0, none⟩)) (hg : w.heap[g]? = some (.cells cs t fr))
    (hu : P.underlying ty = some d) (hd : (match d with | .struct _ | .array _ _ => true | _ => false) = true) (hi : (P.info? ty).map (·.size) = some cs.size) :
    (results fn tmps).run P w = .ok (.tuple #[.agg cs, tmps.getD u undef]) w := by
  rw [results_cell_tmp h, hp]
  simp [asAddr, run_loadVar_row w g t ty cs fr d hg hu hd hi]
end Go.Cat
namespace Go.Proofs.YtmnnahkaenikkaaDoor
open Go.RowKit Go.Cat
set_option maxRecDepth 100000 in
set_option maxHeartbeats 2000000 in
theorem get_c (v : Value) (n s : List UInt8) (w : World) (hv : Reads w 7 v 1 (.string ⟨n.toArray⟩ :: textC s)) :
    Calls Tryd.prog 13 #[.agg (thingC v).toArray, .string ⟨n.toArray⟩] w fun e w' => e = .returned (.tuple #[.agg (textC s).toArray, .bool true]) ∧ Chg (fun _ => False) w w' := by
  obtain ⟨va, vc, rfl⟩ := hv.form
  obtain ⟨g, o, rfl⟩ : ∃ g o, va = some ⟨g, o, none⟩ := by
    rcases hv.2 with ⟨hv, h0⟩ | ⟨g, o, c, hv, _⟩
    · omega
    · simp only [Value.slice.injEq] at hv; exact ⟨g, o, hv.1⟩
  obtain ⟨W0, hW0⟩ : ∃ W0, W0 = (w.alloc (.cells (thingC (.slice (some ⟨g, o, none⟩) 1 vc)).toArray 26)).alloc (.cells #[.int .i64 0, .bool false, .int .i64 0, .string ⟨#[]⟩, .slice none 0 0, .slice none 0 0] 26) := ⟨_, rfl⟩
  have c0 : Chg (fun _ => False) w W0 := by rw [hW0]; exact ((Chg.refl _ w).alloc _).alloc _
  have s1 : (w.alloc (.cells (thingC (.slice (some ⟨g, o, none⟩) 1 vc)).toArray 26)).heap.size = w.heap.size + 1 := by show (w.heap.push _).size = _; simp
  have hz : W0.heap[w.heap.size + 1]? = some (.cells #[.int .i64 0, .bool false, .int .i64 0, .string ⟨#[]⟩, .slice none 0 0, .slice none 0 0] 26 (0, 0)) := by rw [hW0, ← s1]; exact heap_alloc_new _ _
  have hv0 := hv.kept c0 (fun _ _ h => h)
  obtain ⟨c7, hc7⟩ : ∃ c7, c7 = .string ⟨n.toArray⟩ :: textC s := ⟨_, rfl⟩
  rw [← hc7] at hv0
  have hone7 : one c7 := by rw [hc7]; intro u hu; simp [textC] at hu; rcases hu with rfl | rfl | rfl | rfl | rfl | rfl | rfl <;> rfl
  have hld : (Instr.loadAt 32 (.pointer (some ⟨g, o, none⟩))).run Tryd.prog W0 = .ok (.agg c7.toArray) W0 := by
    refine run_loadAt_agg W0 _ _ g o c7 Tryd.underlying32 rfl (by rw [hc7]; exact size_pair) fun j u hj => ?_
    rcases hv0.2 with ⟨hv, h0⟩ | ⟨g', o', c, hv, g1, g2, g3, g4⟩
    · simp at hv
    · simp only [Value.slice.injEq, Option.some.injEq, Addr.mk.injEq, true_and, and_true] at hv
      obtain ⟨⟨rfl, rfl⟩, rfl⟩ := hv
      exact g4 j u hj
  have hst := store_new (P := Tryd.prog) 32 [.string ⟨#[]⟩, .int .i64 0, .bool false, .int .i64 0, .string ⟨#[]⟩, .slice none 0 0, .slice none 0 0] c7 32 (by rw [hc7]; exact size_pair) (by rw [hc7]; rfl) hone7 W0
  obtain ⟨W1, hW1⟩ : ∃ W1, W1 = W0.alloc (.cells c7.toArray 32) := ⟨_, rfl⟩
  rw [← hW1] at hst
  have c1 : Chg (fun _ => False) W0 W1 := by rw [hW1]; exact (Chg.refl _ W0).alloc _
  have hh1 : W1.heap[W0.heap.size]? = some (.cells c7.toArray 32 (0, 0)) := by rw [hW1]; exact heap_alloc_new W0 _
  have q0 : W1.cell? ⟨W0.heap.size, 0, none⟩ = some (.string ⟨n.toArray⟩) := by rw [cell_of_heap hh1, hc7]; rfl
  have hl2 : (Instr.loadAt 26 (.pointer (some ⟨W0.heap.size, 1, none⟩))).run Tryd.prog W1 = .ok (.agg (textC s).toArray) W1 :=
    run_loadAt_agg W1 _ _ W0.heap.size 1 (textC s) Tryd.underlying26 rfl size_val fun j u hj => by
      rw [cell_of_heap hh1, hc7, Nat.add_comm]
      simpa using hj
  obtain ⟨W2, hsu, hb2, c2⟩ := store_whole (P := Tryd.prog) 26 26 [.int .i64 0, .bool false, .int .i64 0, .string ⟨#[]⟩, .slice none 0 0, .slice none 0 0] (textC s) (w.heap.size + 1) size_val rfl (by intro u hu; simp [textC] at hu; rcases hu with rfl | rfl | rfl | rfl | rfl | rfl <;> rfl) W1 (c1.heap hz (fun h => h))
  have HB2 := Lib.hid hb2
  have HW0 := Lib.hid hW0
  have C := Lib.hid ((c0.trans c1).trans' c2 (fun i hi h => by omega))
  clear hb2 hh1 hz hW1 hv hv0 hc7 hone7
  show Calls Tryd.prog 13 #[.agg #[.int .i64 5, .bool false, .int .i64 0, .string ⟨#[]⟩, .slice none 0 0, .slice (some ⟨g, o, none⟩) 1 vc], .string ⟨n.toArray⟩] w _
  go_enter Tryd.func13, Tryd.ntmps13
  go_wp2_with fail
  go_loopw [7, 15] (fun _ i wr => i = .int .i64 0 ∧ wr = W0) (fun _ _ _ => 0)
  case atStart =>
    exact ⟨rfl, by rw [HW0.out]; rfl⟩
  case round =>
    obtain ⟨rfl, rfl⟩ := hrel
    clear hW0
    go_wp2_with (first | refine wpList_load rfl 32 _ rfl _ _ rfl hld ?_ | refine wpList_store rfl 32 _ _ rfl _ _ _ rfl rfl hst ?_ | refine wpList_load rfl 26 _ rfl _ _ rfl hl2 ?_ | refine wpList_store rfl 26 _ _ rfl _ _ _ rfl rfl hsu ?_)
    refine bodyPost_ret (v := .tuple #[.agg (textC s).toArray, .bool true]) (results_cell_tmp_row (fn := Tryd.f13) (p := 4) (u := 5) (ty := 26) rfl _ _ (w.heap.size + 1) _ _ (0, 0) _ rfl HB2.out Tryd.underlying26 rfl size_val) rfl ?_
    exact ⟨rfl, C.out⟩

def wordsB : List Value := [.string ⟨#[111, 107]⟩, .string ⟨#[97, 114, 103, 117, 109, 101, 110, 116]⟩, .string ⟨#[102, 111, 114, 109]⟩, .string ⟨#[114, 97, 110, 103, 101]⟩, .string ⟨#[115, 104, 111, 114, 116]⟩, .string ⟨#[116, 111, 114, 110]⟩, .string ⟨#[102, 117, 108, 108]⟩, .string ⟨#[110, 111, 110, 101]⟩, .string ⟨#[115, 97, 109, 101]⟩, .string ⟨#[104, 101, 108, 100]⟩, .string ⟨#[113, 117, 111, 116, 97]⟩, .string ⟨#[97, 117, 116, 104]⟩, .string ⟨#[108, 111, 110, 103]⟩, .string ⟨#[100, 111, 119, 110]⟩, .string ⟨#[115, 116, 97, 116, 101]⟩, .string ⟨#[110, 97, 109, 101]⟩, .string ⟨#[98, 114, 111, 107, 101, 110]⟩, .string ⟨#[111, 114, 100, 101, 114]⟩]
def codesB : List Value := [.int .i64 200, .int .i64 400, .int .i64 400, .int .i64 400, .int .i64 400, .int .i64 400, .int .i64 507, .int .i64 404, .int .i64 409, .int .i64 409, .int .i64 429, .int .i64 401, .int .i64 413, .int .i64 503, .int .i64 409, .int .i64 400, .int .i64 400, .int .i64 409]
theorem wordsB_at (n : Nat) (h : n < 18) : wordsB[n]? = some (.string ⟨(wordOf (n : Int)).toArray⟩) := by
  have : ∀ k : Fin 18, wordsB[k.val]? = some (.string ⟨(wordOf (k.val : Int)).toArray⟩) := by
    intro k
    rcases k with ⟨k, hk⟩
    rcases (show k = 0 ∨ k = 1 ∨ k = 2 ∨ k = 3 ∨ k = 4 ∨ k = 5 ∨ k = 6 ∨ k = 7 ∨ k = 8 ∨ k = 9 ∨ k = 10 ∨ k = 11 ∨ k = 12 ∨ k = 13 ∨ k = 14 ∨ k = 15 ∨ k = 16 ∨ k = 17 by omega) with rfl | rfl | rfl | rfl | rfl | rfl | rfl | rfl | rfl | rfl | rfl | rfl | rfl | rfl | rfl | rfl | rfl | rfl <;> rfl
  exact this ⟨n, h⟩
theorem codesB_at (n : Nat) (h : n < 18) : codesB[n]? = some (.int .i64 (codeOf (n : Int))) := by
  have : ∀ k : Fin 18, codesB[k.val]? = some (.int .i64 (codeOf (k.val : Int))) := by
    intro k
    rcases k with ⟨k, hk⟩
    rcases (show k = 0 ∨ k = 1 ∨ k = 2 ∨ k = 3 ∨ k = 4 ∨ k = 5 ∨ k = 6 ∨ k = 7 ∨ k = 8 ∨ k = 9 ∨ k = 10 ∨ k = 11 ∨ k = 12 ∨ k = 13 ∨ k = 14 ∨ k = 15 ∨ k = 16 ∨ k = 17 by omega) with rfl | rfl | rfl | rfl | rfl | rfl | rfl | rfl | rfl | rfl | rfl | rfl | rfl | rfl | rfl | rfl | rfl | rfl <;> rfl
  exact this ⟨n, h⟩

set_option maxRecDepth 100000 in
set_option maxHeartbeats 4000000 in
theorem codes31_walk (e : Int) (w : World) (ht : Tab w) (hb : -9223372036854775808 ≤ e ∧ e ≤ 9223372036854775807) : Calls Tryd.prog 4 #[.int .i64 e] w fun x w' => x = .returned (.bool true) ∧ Chg (fun _ => False) w w' := by
  have HL := Lib.hid (lives_c w ht)
  clear ht
  obtain ⟨cd, hcd⟩ : ∃ cd, cd = codeOf e := ⟨_, rfl⟩
  obtain ⟨wd, hwd⟩ : ∃ wd, wd = wordOf e := ⟨_, rfl⟩
  have HF := Lib.hid (fun W => failed_c e W)
  have HC := Lib.hid (fun W => code_c e W)
  have HW := Lib.hid (fun W => word_c e W)
  rw [← hcd, ← hwd] at HF
  rw [← hcd] at HC
  rw [← hwd] at HW
  by_cases h : 0 ≤ e ∧ e < 18
  · obtain ⟨n, rfl⟩ := Int.eq_ofNat_of_zero_le h.1
    have hn : n < 18 := by omega
    have q1 := codesB_at n hn
    have q2 := wordsB_at n hn
    rw [← hcd] at q1
    rw [← hwd] at q2
    have hnI : (n : Int) < 18 := h.2
    clear h hcd hwd hb
    go_enter Tryd.func4, Tryd.ntmps4
    go_wp2_with (go_at_call 5; refine HL.out.mono ?_; rintro x w1 ⟨rfl, c1⟩; refine Hid.out ?_)
    refine Lib.hid ?_
    obtain ⟨w2, hw2⟩ : ∃ w2, w2 = w1.alloc (.cells #[.string ⟨#[111, 107]⟩, .string ⟨#[97, 114, 103, 117, 109, 101, 110, 116]⟩, .string ⟨#[102, 111, 114, 109]⟩, .string ⟨#[114, 97, 110, 103, 101]⟩, .string ⟨#[115, 104, 111, 114, 116]⟩, .string ⟨#[116, 111, 114, 110]⟩, .string ⟨#[102, 117, 108, 108]⟩, .string ⟨#[110, 111, 110, 101]⟩, .string ⟨#[115, 97, 109, 101]⟩, .string ⟨#[104, 101, 108, 100]⟩, .string ⟨#[113, 117, 111, 116, 97]⟩, .string ⟨#[97, 117, 116, 104]⟩, .string ⟨#[108, 111, 110, 103]⟩, .string ⟨#[100, 111, 119, 110]⟩, .string ⟨#[115, 116, 97, 116, 101]⟩, .string ⟨#[110, 97, 109, 101]⟩, .string ⟨#[98, 114, 111, 107, 101, 110]⟩, .string ⟨#[111, 114, 100, 101, 114]⟩] 9) := ⟨_, rfl⟩
    obtain ⟨w3, hw3⟩ : ∃ w3, w3 = w2.alloc (.cells #[.int .i64 200, .int .i64 400, .int .i64 400, .int .i64 400, .int .i64 400, .int .i64 400, .int .i64 507, .int .i64 404, .int .i64 409, .int .i64 409, .int .i64 429, .int .i64 401, .int .i64 413, .int .i64 503, .int .i64 409, .int .i64 400, .int .i64 400, .int .i64 409] 3) := ⟨_, rfl⟩
    have s2 : w2.heap.size = w1.heap.size + 1 := by rw [hw2]; show (w1.heap.push _).size = _; simp
    have c3 : Chg (fun _ => False) w1 w3 := by rw [hw3, hw2]; exact ((Chg.refl _ w1).alloc _).alloc _
    have a1 : w3.cell? ⟨w1.heap.size, n, none⟩ = some (.string ⟨wd.toArray⟩) := by
      have : w2.cell? ⟨w1.heap.size, n, none⟩ = some (.string ⟨wd.toArray⟩) := by
        rw [hw2, cell_of_heap (heap_alloc_new w1 _)]
        have hq : (wordsB.toArray)[n]? = some (.string ⟨wd.toArray⟩) := by rw [List.getElem?_toArray]; exact q2
        exact hq
      rw [hw3]; exact ((Chg.refl (fun _ => False) w2).alloc _).cell this (fun h => h)
    have a2 : w3.cell? ⟨w1.heap.size + 1, n, none⟩ = some (.int .i64 cd) := by
      rw [hw3, ← s2, cell_of_heap (heap_alloc_new w2 _)]
      have hq : (codesB.toArray)[n]? = some (.int .i64 cd) := by rw [List.getElem?_toArray]; exact q1
      exact hq
    clear q1 q2
    go_wp2_with fail
    rw [← hw2, ← hw3]
    clear hw2 hw3 s2
    go_quiet (fail)
    go_wp2_with fail
    clear a1 a2
    go_wp2_with (go_at_call 12; refine (HF.out _).mono ?_; rintro x w4 ⟨v, rfl, hv, c4⟩; refine Hid.out ?_)
    refine Lib.hid ?_
    obtain ⟨va, vc, rfl⟩ := hv.form
    have hst := store_new (P := Tryd.prog) 40 [.int .i64 0, .int .i64 0, .bool false, .int .i64 0, .string ⟨#[]⟩, .slice none 0 0, .slice none 0 0] (Value.int .i64 cd :: thingC (.slice va 1 vc)) 40 (by kernel_rfl) rfl (by intro u hu; simp [thingC] at hu; rcases hu with rfl | rfl | rfl | rfl | rfl | rfl | rfl <;> rfl) w4
    obtain ⟨w5, hw5⟩ : ∃ w5, w5 = w4.alloc (.cells (Value.int .i64 cd :: thingC (.slice va 1 vc)).toArray 40) := ⟨_, rfl⟩
    have hh5 : w5.heap[w4.heap.size]? = some (.cells (Value.int .i64 cd :: thingC (.slice va 1 vc)).toArray 40 (0, 0)) := by rw [hw5]; exact heap_alloc_new w4 _
    have c5 : Chg (fun _ => False) w4 w5 := by rw [hw5]; exact (Chg.refl _ w4).alloc _
    rw [← hw5] at hst
    clear hw5
    have hld : (Instr.loadAt 26 (.pointer (some ⟨w4.heap.size, 1, none⟩))).run Tryd.prog w5 = .ok (.agg (thingC (.slice va 1 vc)).toArray) w5 :=
      run_loadAt_agg w5 _ _ w4.heap.size 1 (thingC (.slice va 1 vc)) Tryd.underlying26 rfl size_val fun j u hj => by
        rw [cell_of_heap hh5, Nat.add_comm]
        simpa [thingC] using hj
    have HG := Lib.hid (get_c (.slice va 1 vc) [101, 114, 114, 111, 114] wd w5 (hv.kept c5 (fun _ _ h => h)))
    have HH5 := Lib.hid hh5
    clear hh5 hv
    go_wp2_with (first | refine wpList_store rfl 40 _ _ rfl _ _ _ rfl rfl hst ?_ | refine wpList_load rfl 26 _ rfl _ _ rfl hld ?_ | (go_at_call 13; refine HG.out.mono ?_; rintro x w6 ⟨rfl, c6⟩; refine Hid.out ?_))
    refine Lib.hid ?_
    have hsu := store_new (P := Tryd.prog) 26 [.int .i64 0, .bool false, .int .i64 0, .string ⟨#[]⟩, .slice none 0 0, .slice none 0 0] (textC wd) 26 size_val rfl (by intro u hu; simp [textC] at hu; rcases hu with rfl | rfl | rfl | rfl | rfl | rfl <;> rfl) w6
    obtain ⟨w7, hw7⟩ : ∃ w7, w7 = w6.alloc (.cells (textC wd).toArray 26) := ⟨_, rfl⟩
    have hh7 : w7.heap[w6.heap.size]? = some (.cells (textC wd).toArray 26 (0, 0)) := by rw [hw7]; exact heap_alloc_new w6 _
    have c7 : Chg (fun _ => False) w6 w7 := by rw [hw7]; exact (Chg.refl _ w6).alloc _
    rw [← hw7] at hsu
    clear hw7 hst hld
    have k0 : w7.cell? ⟨w6.heap.size, 0, none⟩ = some (.int .i64 3) := by rw [cell_of_heap hh7]; rfl
    have k3 : w7.cell? ⟨w6.heap.size, 3, none⟩ = some (.string ⟨wd.toArray⟩) := by rw [cell_of_heap hh7]; rfl
    have hh8 := (c6.trans c7).heap HH5.out (fun h => h)
    have r0 : w7.cell? ⟨w4.heap.size, 0, none⟩ = some (.int .i64 cd) := by rw [cell_of_heap hh8]; rfl
    have K0 : Hid (∀ w', Chg (fun _ => False) w7 w' → w'.cell? ⟨w6.heap.size, 0, none⟩ = some (.int .i64 3) ∧ w'.cell? ⟨w6.heap.size, 3, none⟩ = some (.string ⟨wd.toArray⟩) ∧ w'.cell? ⟨w4.heap.size, 0, none⟩ = some (.int .i64 cd)) := fun w' c => ⟨c.cell k0 (fun h => h), c.cell k3 (fun h => h), c.cell r0 (fun h => h)⟩
    clear k0 k3 r0 hh7 hh8
    go_wp2_with (first | refine wpList_store rfl 26 _ _ rfl _ _ _ rfl rfl hsu ?_ | (go_at_call 14; refine (HC.out _).mono ?_; rintro x w8 ⟨rfl, rfl⟩) | (go_at_call 15; refine (HW.out _).mono ?_; rintro x w8 ⟨rfl, c8⟩; refine Hid.out ?_))
    refine Lib.hid ?_
    obtain ⟨k0, k3, r0⟩ := K0.out w8 c8
    go_wp2_with fail
    go_ret
    exact ⟨by simp, (((((c1.trans c3).trans ((Chg.refl _ w3).drewN _)).trans c4).trans c5).trans c6).trans (c7.trans c8)⟩
  · have hC : cd = 400 := by rw [hcd]; exact if_neg h
    have hW : wd = [117, 110, 107, 110, 111, 119, 110] := by rw [hwd]; exact if_neg h
    subst hC
    subst hW
    clear hcd hwd
    by_cases h0 : e < 0
    · clear h hb
      go_enter Tryd.func4, Tryd.ntmps4
      go_wp2_with (go_at_call 5; refine HL.out.mono ?_; rintro x w1 ⟨rfl, c1⟩; refine Hid.out ?_)
      refine Lib.hid ?_
      obtain ⟨w2, hw2⟩ : ∃ w2, w2 = w1.alloc (.cells #[.string ⟨#[111, 107]⟩, .string ⟨#[97, 114, 103, 117, 109, 101, 110, 116]⟩, .string ⟨#[102, 111, 114, 109]⟩, .string ⟨#[114, 97, 110, 103, 101]⟩, .string ⟨#[115, 104, 111, 114, 116]⟩, .string ⟨#[116, 111, 114, 110]⟩, .string ⟨#[102, 117, 108, 108]⟩, .string ⟨#[110, 111, 110, 101]⟩, .string ⟨#[115, 97, 109, 101]⟩, .string ⟨#[104, 101, 108, 100]⟩, .string ⟨#[113, 117, 111, 116, 97]⟩, .string ⟨#[97, 117, 116, 104]⟩, .string ⟨#[108, 111, 110, 103]⟩, .string ⟨#[100, 111, 119, 110]⟩, .string ⟨#[115, 116, 97, 116, 101]⟩, .string ⟨#[110, 97, 109, 101]⟩, .string ⟨#[98, 114, 111, 107, 101, 110]⟩, .string ⟨#[111, 114, 100, 101, 114]⟩] 9) := ⟨_, rfl⟩
      obtain ⟨w3, hw3⟩ : ∃ w3, w3 = w2.alloc (.cells #[.int .i64 200, .int .i64 400, .int .i64 400, .int .i64 400, .int .i64 400, .int .i64 400, .int .i64 507, .int .i64 404, .int .i64 409, .int .i64 409, .int .i64 429, .int .i64 401, .int .i64 413, .int .i64 503, .int .i64 409, .int .i64 400, .int .i64 400, .int .i64 409] 3) := ⟨_, rfl⟩
      have c3 : Chg (fun _ => False) w1 w3 := by rw [hw3, hw2]; exact ((Chg.refl _ w1).alloc _).alloc _
      rw [hw2] at hw3
      go_wp2_with (go_at_call 12; refine Hid.out ?_)
      rw [← hw3]
      clear hw2 hw3
      refine Lib.hid ?_
      go_wp2_with (go_at_call 12; refine (HF.out _).mono ?_; rintro x w4 ⟨v, rfl, hv, c4⟩; refine Hid.out ?_)
      refine Lib.hid ?_
      obtain ⟨va, vc, rfl⟩ := hv.form
      have hst := store_new (P := Tryd.prog) 40 [.int .i64 0, .int .i64 0, .bool false, .int .i64 0, .string ⟨#[]⟩, .slice none 0 0, .slice none 0 0] (Value.int .i64 400 :: thingC (.slice va 1 vc)) 40 (by kernel_rfl) rfl (by intro u hu; simp [thingC] at hu; rcases hu with rfl | rfl | rfl | rfl | rfl | rfl | rfl <;> rfl) w4
      obtain ⟨w5, hw5⟩ : ∃ w5, w5 = w4.alloc (.cells (Value.int .i64 400 :: thingC (.slice va 1 vc)).toArray 40) := ⟨_, rfl⟩
      have hh5 : w5.heap[w4.heap.size]? = some (.cells (Value.int .i64 400 :: thingC (.slice va 1 vc)).toArray 40 (0, 0)) := by rw [hw5]; exact heap_alloc_new w4 _
      have c5 : Chg (fun _ => False) w4 w5 := by rw [hw5]; exact (Chg.refl _ w4).alloc _
      rw [← hw5] at hst
      clear hw5
      have hld : (Instr.loadAt 26 (.pointer (some ⟨w4.heap.size, 1, none⟩))).run Tryd.prog w5 = .ok (.agg (thingC (.slice va 1 vc)).toArray) w5 :=
        run_loadAt_agg w5 _ _ w4.heap.size 1 (thingC (.slice va 1 vc)) Tryd.underlying26 rfl size_val fun j u hj => by
          rw [cell_of_heap hh5, Nat.add_comm]
          simpa [thingC] using hj
      have HG := Lib.hid (get_c (.slice va 1 vc) [101, 114, 114, 111, 114] [117, 110, 107, 110, 111, 119, 110] w5 (hv.kept c5 (fun _ _ h => h)))
      have HH5 := Lib.hid hh5
      clear hh5 hv
      go_wp2_with (first | refine wpList_store rfl 40 _ _ rfl _ _ _ rfl rfl hst ?_ | refine wpList_load rfl 26 _ rfl _ _ rfl hld ?_ | (go_at_call 13; refine HG.out.mono ?_; rintro x w6 ⟨rfl, c6⟩; refine Hid.out ?_))
      refine Lib.hid ?_
      have hsu := store_new (P := Tryd.prog) 26 [.int .i64 0, .bool false, .int .i64 0, .string ⟨#[]⟩, .slice none 0 0, .slice none 0 0] (textC [117, 110, 107, 110, 111, 119, 110]) 26 size_val rfl (by intro u hu; simp [textC] at hu; rcases hu with rfl | rfl | rfl | rfl | rfl | rfl <;> rfl) w6
      obtain ⟨w7, hw7⟩ : ∃ w7, w7 = w6.alloc (.cells (textC [117, 110, 107, 110, 111, 119, 110]).toArray 26) := ⟨_, rfl⟩
      have hh7 : w7.heap[w6.heap.size]? = some (.cells (textC [117, 110, 107, 110, 111, 119, 110]).toArray 26 (0, 0)) := by rw [hw7]; exact heap_alloc_new w6 _
      have c7 : Chg (fun _ => False) w6 w7 := by rw [hw7]; exact (Chg.refl _ w6).alloc _
      rw [← hw7] at hsu
      clear hw7 hst hld
      have k0 : w7.cell? ⟨w6.heap.size, 0, none⟩ = some (.int .i64 3) := by rw [cell_of_heap hh7]; rfl
      have k3 : w7.cell? ⟨w6.heap.size, 3, none⟩ = some (.string ⟨[117, 110, 107, 110, 111, 119, 110].toArray⟩) := by rw [cell_of_heap hh7]; rfl
      have hh8 := (c6.trans c7).heap HH5.out (fun h => h)
      have r0 : w7.cell? ⟨w4.heap.size, 0, none⟩ = some (.int .i64 400) := by rw [cell_of_heap hh8]; rfl
      have K0 : Hid (∀ w', Chg (fun _ => False) w7 w' → w'.cell? ⟨w6.heap.size, 0, none⟩ = some (.int .i64 3) ∧ w'.cell? ⟨w6.heap.size, 3, none⟩ = some (.string ⟨[117, 110, 107, 110, 111, 119, 110].toArray⟩) ∧ w'.cell? ⟨w4.heap.size, 0, none⟩ = some (.int .i64 400)) := fun w' c => ⟨c.cell k0 (fun h => h), c.cell k3 (fun h => h), c.cell r0 (fun h => h)⟩
      clear k0 k3 r0 hh7 hh8
      go_wp2_with (first | refine wpList_store rfl 26 _ _ rfl _ _ _ rfl rfl hsu ?_ | (go_at_call 14; refine (HC.out _).mono ?_; rintro x w8 ⟨rfl, rfl⟩) | (go_at_call 15; refine (HW.out _).mono ?_; rintro x w8 ⟨rfl, c8⟩; refine Hid.out ?_))
      refine Lib.hid ?_
      obtain ⟨k0, k3, r0⟩ := K0.out w8 c8
      go_wp2_with fail
      go_ret
      exact ⟨by simp, ((((c1.trans c3).trans c4).trans c5).trans c6).trans (c7.trans c8)⟩
    · have h18 : 18 ≤ e := by omega
      clear h hb
      go_enter Tryd.func4, Tryd.ntmps4
      go_wp2_with (go_at_call 5; refine HL.out.mono ?_; rintro x w1 ⟨rfl, c1⟩; refine Hid.out ?_)
      refine Lib.hid ?_
      obtain ⟨w2, hw2⟩ : ∃ w2, w2 = w1.alloc (.cells #[.string ⟨#[111, 107]⟩, .string ⟨#[97, 114, 103, 117, 109, 101, 110, 116]⟩, .string ⟨#[102, 111, 114, 109]⟩, .string ⟨#[114, 97, 110, 103, 101]⟩, .string ⟨#[115, 104, 111, 114, 116]⟩, .string ⟨#[116, 111, 114, 110]⟩, .string ⟨#[102, 117, 108, 108]⟩, .string ⟨#[110, 111, 110, 101]⟩, .string ⟨#[115, 97, 109, 101]⟩, .string ⟨#[104, 101, 108, 100]⟩, .string ⟨#[113, 117, 111, 116, 97]⟩, .string ⟨#[97, 117, 116, 104]⟩, .string ⟨#[108, 111, 110, 103]⟩, .string ⟨#[100, 111, 119, 110]⟩, .string ⟨#[115, 116, 97, 116, 101]⟩, .string ⟨#[110, 97, 109, 101]⟩, .string ⟨#[98, 114, 111, 107, 101, 110]⟩, .string ⟨#[111, 114, 100, 101, 114]⟩] 9) := ⟨_, rfl⟩
      obtain ⟨w3, hw3⟩ : ∃ w3, w3 = w2.alloc (.cells #[.int .i64 200, .int .i64 400, .int .i64 400, .int .i64 400, .int .i64 400, .int .i64 400, .int .i64 507, .int .i64 404, .int .i64 409, .int .i64 409, .int .i64 429, .int .i64 401, .int .i64 413, .int .i64 503, .int .i64 409, .int .i64 400, .int .i64 400, .int .i64 409] 3) := ⟨_, rfl⟩
      have c3 : Chg (fun _ => False) w1 w3 := by rw [hw3, hw2]; exact ((Chg.refl _ w1).alloc _).alloc _
      rw [hw2] at hw3
      go_wp2_with (go_at_call 12; refine Hid.out ?_)
      rw [← hw3]
      clear hw2 hw3
      refine Lib.hid ?_
      go_wp2_with (go_at_call 12; refine (HF.out _).mono ?_; rintro x w4 ⟨v, rfl, hv, c4⟩; refine Hid.out ?_)
      refine Lib.hid ?_
      obtain ⟨va, vc, rfl⟩ := hv.form
      have hst := store_new (P := Tryd.prog) 40 [.int .i64 0, .int .i64 0, .bool false, .int .i64 0, .string ⟨#[]⟩, .slice none 0 0, .slice none 0 0] (Value.int .i64 400 :: thingC (.slice va 1 vc)) 40 (by kernel_rfl) rfl (by intro u hu; simp [thingC] at hu; rcases hu with rfl | rfl | rfl | rfl | rfl | rfl | rfl <;> rfl) w4
      obtain ⟨w5, hw5⟩ : ∃ w5, w5 = w4.alloc (.cells (Value.int .i64 400 :: thingC (.slice va 1 vc)).toArray 40) := ⟨_, rfl⟩
      have hh5 : w5.heap[w4.heap.size]? = some (.cells (Value.int .i64 400 :: thingC (.slice va 1 vc)).toArray 40 (0, 0)) := by rw [hw5]; exact heap_alloc_new w4 _
      have c5 : Chg (fun _ => False) w4 w5 := by rw [hw5]; exact (Chg.refl _ w4).alloc _
      rw [← hw5] at hst
      clear hw5
      have hld : (Instr.loadAt 26 (.pointer (some ⟨w4.heap.size, 1, none⟩))).run Tryd.prog w5 = .ok (.agg (thingC (.slice va 1 vc)).toArray) w5 :=
        run_loadAt_agg w5 _ _ w4.heap.size 1 (thingC (.slice va 1 vc)) Tryd.underlying26 rfl size_val fun j u hj => by
          rw [cell_of_heap hh5, Nat.add_comm]
          simpa [thingC] using hj
      have HG := Lib.hid (get_c (.slice va 1 vc) [101, 114, 114, 111, 114] [117, 110, 107, 110, 111, 119, 110] w5 (hv.kept c5 (fun _ _ h => h)))
      have HH5 := Lib.hid hh5
      clear hh5 hv
      go_wp2_with (first | refine wpList_store rfl 40 _ _ rfl _ _ _ rfl rfl hst ?_ | refine wpList_load rfl 26 _ rfl _ _ rfl hld ?_ | (go_at_call 13; refine HG.out.mono ?_; rintro x w6 ⟨rfl, c6⟩; refine Hid.out ?_))
      refine Lib.hid ?_
      have hsu := store_new (P := Tryd.prog) 26 [.int .i64 0, .bool false, .int .i64 0, .string ⟨#[]⟩, .slice none 0 0, .slice none 0 0] (textC [117, 110, 107, 110, 111, 119, 110]) 26 size_val rfl (by intro u hu; simp [textC] at hu; rcases hu with rfl | rfl | rfl | rfl | rfl | rfl <;> rfl) w6
      obtain ⟨w7, hw7⟩ : ∃ w7, w7 = w6.alloc (.cells (textC [117, 110, 107, 110, 111, 119, 110]).toArray 26) := ⟨_, rfl⟩
      have hh7 : w7.heap[w6.heap.size]? = some (.cells (textC [117, 110, 107, 110, 111, 119, 110]).toArray 26 (0, 0)) := by rw [hw7]; exact heap_alloc_new w6 _
      have c7 : Chg (fun _ => False) w6 w7 := by rw [hw7]; exact (Chg.refl _ w6).alloc _
      rw [← hw7] at hsu
      clear hw7 hst hld
      have k0 : w7.cell? ⟨w6.heap.size, 0, none⟩ = some (.int .i64 3) := by rw [cell_of_heap hh7]; rfl
      have k3 : w7.cell? ⟨w6.heap.size, 3, none⟩ = some (.string ⟨[117, 110, 107, 110, 111, 119, 110].toArray⟩) := by rw [cell_of_heap hh7]; rfl
      have hh8 := (c6.trans c7).heap HH5.out (fun h => h)
      have r0 : w7.cell? ⟨w4.heap.size, 0, none⟩ = some (.int .i64 400) := by rw [cell_of_heap hh8]; rfl
      have K0 : Hid (∀ w', Chg (fun _ => False) w7 w' → w'.cell? ⟨w6.heap.size, 0, none⟩ = some (.int .i64 3) ∧ w'.cell? ⟨w6.heap.size, 3, none⟩ = some (.string ⟨[117, 110, 107, 110, 111, 119, 110].toArray⟩) ∧ w'.cell? ⟨w4.heap.size, 0, none⟩ = some (.int .i64 400)) := fun w' c => ⟨c.cell k0 (fun h => h), c.cell k3 (fun h => h), c.cell r0 (fun h => h)⟩
      clear k0 k3 r0 hh7 hh8
      go_wp2_with (first | refine wpList_store rfl 26 _ _ rfl _ _ _ rfl rfl hsu ?_ | (go_at_call 14; refine (HC.out _).mono ?_; rintro x w8 ⟨rfl, rfl⟩) | (go_at_call 15; refine (HW.out _).mono ?_; rintro x w8 ⟨rfl, c8⟩; refine Hid.out ?_))
      refine Lib.hid ?_
      obtain ⟨k0, k3, r0⟩ := K0.out w8 c8
      go_wp2_with fail
      go_ret
      exact ⟨by simp, ((((c1.trans c3).trans c4).trans c5).trans c6).trans (c7.trans c8)⟩
end Go.Proofs.YtmnnahkaenikkaaDoor
