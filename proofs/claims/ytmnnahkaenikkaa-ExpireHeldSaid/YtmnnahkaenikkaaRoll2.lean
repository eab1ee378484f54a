/- roll.Of, Join. -/
import Derived.Test.YtmnnahkaenikkaaRoll
namespace Go.Proofs.Ytmnnahkaenikkaa
open Go.RowKit Go.Cat
def ofP (x : Int) (l : List Pt) : Ag := l.foldl (fun a p => agAdd a p.val) ⟨x, 0, 0, 0, 0⟩
def AgAt (w : World) (g : Nat) (a : Ag) : Prop := w.heap[g]? = some (.cells a.cells.toArray 58 (0, 0))
theorem AgAt.kept {w w' : World} {g : Nat} {a : Ag} (h : AgAt w g a) {S : Nat → Prop} (c : Chg S w w') (hs : ¬ S g) : AgAt w' g a := c.heap h hs
theorem AgAt.set {w : World} {g : Nat} {a : Ag} (h : AgAt w g a) (b : Ag) : AgAt (w.setCells g 0 b.cells) g b := row_ag (by have := h; unfold AgAt at this; exact this) b
theorem AgAt.store {w : World} {g : Nat} {a : Ag} (h : AgAt w g a) (b : Ag) : (Instr.storeAt 58 (.pointer (some ⟨g, 0, none⟩)) (.agg b.cells.toArray)).run Try.prog w = .ok () (w.setCells g 0 b.cells) := store_ag h rfl b
theorem AgAt.load {w : World} {g : Nat} {a : Ag} (h : AgAt w g a) : (Instr.loadAt 58 (.pointer (some ⟨g, 0, none⟩))).run Try.prog w = .ok (.agg a.cells.toArray) w := load_ag h
theorem AgAt.lt {w : World} {g : Nat} {a : Ag} (h : AgAt w g a) : g < w.heap.size := (Array.getElem?_eq_some_iff.1 h).1
theorem size_ag5 (a : Ag) : (Try.prog.info? 58).map (·.size) = some a.cells.toArray.size := by kernel_rfl
set_option maxRecDepth 100000 in
set_option maxHeartbeats 1000000 in
theorem ofp_c (w : World) (x : Int) (v : Value) (l : List Pt) (h : Pts w v l) (hl : l.length ≤ 1000000) (hne : l ≠ []) :
    Calls Try.prog 88 #[.int .i64 x, v] w fun e w' => e = .returned (.tuple #[.agg (ofP x l).cells.toArray, .bool true]) ∧ Chg (fun _ => False) w w' := by
  obtain ⟨va, vc, rfl⟩ := h.form
  obtain ⟨n, hn⟩ : ∃ n, n = l.length := ⟨_, rfl⟩
  have HN := Lib.hid hn
  have hn0 : 0 < n := by rw [hn]; exact List.length_pos_iff.2 hne
  have H := Lib.hid h
  rw [← hn] at H hl ⊢
  obtain ⟨W0, hW0⟩ : ∃ W, W = w.alloc (.cells Ag.zero.cells.toArray 58) := ⟨_, rfl⟩
  obtain ⟨W, hW⟩ : ∃ W, W = W0.alloc (.cells Ag.zero.cells.toArray 58) := ⟨_, rfl⟩
  have hs0 : W0.heap.size = w.heap.size + 1 := by rw [hW0]; simp
  have hb1 : AgAt W (w.heap.size + 1) Ag.zero := by rw [hW]; exact heap_at_new _ _ _ hs0.symm
  have hb0 : AgAt W w.heap.size Ag.zero := by
    rw [hW]
    exact Chg.heap ((Chg.refl (fun _ => False) _).alloc _) (by rw [hW0]; exact heap_at_new _ _ _ rfl) (fun h => h)
  have cW : Chg (fun _ => False) w W := by rw [hW, hW0]; exact ((Chg.refl _ w).alloc _).alloc _
  obtain ⟨W1, hW1⟩ : ∃ W1, W1 = W.setCells (w.heap.size + 1) 0 (Ag.cells ⟨x, 0, 0, 0, 0⟩) := ⟨_, rfl⟩
  have hst0 := hb1.store ⟨x, 0, 0, 0, 0⟩
  have C1 : Hid (Chg (fun _ => False) w W1) := by rw [hW1]; exact cW.new (Chg.setCells _ (w.heap.size + 1) _ _) (fun q hq => by omega)
  have A1 : Hid (AgAt W1 (w.heap.size + 1) ⟨x, 0, 0, 0, 0⟩) := by rw [hW1]; exact hb1.set _
  have A0 : Hid (AgAt W1 w.heap.size Ag.zero) := by rw [hW1]; exact hb0.kept (Chg.setCells _ (w.heap.size + 1) _ _) (by omega)
  have hv : (Value.agg (Ag.cells ⟨x, 0, 0, 0, 0⟩).toArray) = .agg #[.int .i64 x, .int .i64 0, .int .i64 0, .int .i64 0, .int .i64 0] := rfl
  rw [← hW1, hv, hW, hW0] at hst0
  have hz : Ag.zero.cells.toArray = #[.int .i64 0, .int .i64 0, .int .i64 0, .int .i64 0, .int .i64 0] := rfl
  rw [hz] at hst0
  have i0 : ((n : Int) == 0) = false := by simp; omega
  clear h hn hne hb0 hb1 cW hW hW0 hW1 hv hz hs0
  go_enter Try.func88, Try.ntmps88
  go_wp2_with (first | refine wpList_store rfl 58 _ _ rfl _ _ _ rfl rfl hst0 ?_)
  clear hst0
  go_loopw [17] (fun ci wr => ∃ k : Nat, k ≤ n ∧ ci = .int .i64 k ∧ Hid (AgAt wr (w.heap.size + 1) (ofP x (l.take k))) ∧ Hid (AgAt wr w.heap.size Ag.zero) ∧ Hid (Chg (fun _ => False) w wr)) (fun ci _ => n - (intOf ci).toNat)
  case atStart => exact ⟨0, by omega, rfl, A1.out, A0.out, C1.out⟩
  case round =>
    obtain ⟨k, hk, rfl, hA, hZ, hC⟩ := hrel
    clear A1 A0 C1
    by_cases hlt : k < n
    · obtain ⟨p, hp⟩ := at_lt (show k < l.length by rw [← HN.out]; exact hlt)
      obtain ⟨g, o, rfl, h1, h2, h3⟩ := reads_some (n := n) (by have := H.out; unfold Pts at this; rw [← HN.out] at this; exact this) (by omega)
      have hld := load_pt wr (fun j u hj => hC.out.cell (h3 j u hj) (fun h => h)) hp
      obtain ⟨Wb, hWb⟩ : ∃ W, W = wr.alloc (.cells #[.int .i64 p.tk, .int .i64 p.val] 32) := ⟨_, rfl⟩
      have cb : Chg (fun _ => False) wr Wb := by rw [hWb]; exact (Chg.refl _ wr).alloc _
      obtain ⟨a, ha⟩ : ∃ a, a = ofP x (l.take k) := ⟨_, rfl⟩
      rw [← ha] at hA
      have hna : ofP x (l.take (k + 1)) = agAdd a p.val := by rw [ha, List.take_add_one, hp]; unfold ofP; rw [List.foldl_append]; rfl
      have hAb : AgAt Wb (w.heap.size + 1) a := hA.out.kept cb (fun h => h)
      have hl6 := hAb.load
      have qv : Wb.cell? ⟨wr.heap.size, 1, none⟩ = some (.int .i64 p.val) := by rw [hWb, World.cell?_alloc_new]; rfl
      have AC := Lib.hid (agadd_c Wb a p.val)
      have HAb := Lib.hid hAb
      have CB := Lib.hid cb
      have HWB := Lib.hid hWb
      have HNA := Lib.hid hna
      rw [hWb] at hl6 qv
      clear hWb cb ha hna hAb h1 h2 h3 hp
      go_wp2_with (first | refine wpList_load rfl 32 _ rfl _ _ rfl hld ?_ | refine wpList_load rfl 58 _ rfl _ _ rfl hl6 ?_)
      rw [← HWB.out]
      refine AC.out.mono ?_
      rintro e w2 ⟨rfl, c2⟩
      have hA2 : AgAt w2 (w.heap.size + 1) a := HAb.out.kept c2 (fun h => h)
      have hst := hA2.store (agAdd a p.val)
      have hA3 : Hid (AgAt (w2.setCells (w.heap.size + 1) 0 (agAdd a p.val).cells) (w.heap.size + 1) (ofP x (l.take (k + 1)))) := by rw [HNA.out]; exact hA2.set _
      have c12 := (hC.out.trans CB.out).trans c2
      have hZ3 : Hid (AgAt (w2.setCells (w.heap.size + 1) 0 (agAdd a p.val).cells) w.heap.size Ag.zero) := (hZ.out.kept (CB.out.trans c2) (fun h => h)).kept (Chg.setCells _ (w.heap.size + 1) _ _) (by omega)
      have C3 : Hid (Chg (fun _ => False) w (w2.setCells (w.heap.size + 1) 0 (agAdd a p.val).cells)) := c12.new (Chg.setCells _ (w.heap.size + 1) _ _) (fun q hq => by omega)
      clear hA2 c12 c2 qv hl6 hld
      go_wp2_with (first | refine wpList_store rfl 58 _ _ rfl _ _ _ rfl rfl hst ?_)
      exact ⟨⟨k + 1, by omega, rfl, hA3.out, hZ3.out, C3.out⟩, by simp only [intOf]; omega⟩
    · obtain rfl : k = n := by omega
      have hA : AgAt wr (w.heap.size + 1) (ofP x l) := by have := hA.out; rw [HN.out, List.take_length] at this; exact this
      have hl6 := hA.load
      have hst := hZ.out.store (ofP x l)
      have hH : Hid (AgAt (wr.setCells w.heap.size 0 (ofP x l).cells) w.heap.size (ofP x l)) := hZ.out.set _
      have C3 : Hid (Chg (fun _ => False) w (wr.setCells w.heap.size 0 (ofP x l).cells)) := hC.out.new (Chg.setCells _ w.heap.size _ _) (fun q hq => by omega)
      clear hA
      go_wp2_with (first | refine wpList_load rfl 58 _ rfl _ _ rfl hl6 ?_ | refine wpList_store rfl 58 _ _ rfl _ _ _ rfl rfl hst ?_)
      refine bodyPost_ret (v := .tuple #[.agg (ofP x l).cells.toArray, .bool true]) (results_row_tmp2 (fn := Try.f88) (p := 4) (u := 5) (ty := 58) rfl _ _ w.heap.size _ _ (0, 0) _ rfl hH.out Try.underlying58 rfl (size_ag5 _)) rfl ⟨rfl, C3.out⟩
end Go.Proofs.Ytmnnahkaenikkaa
