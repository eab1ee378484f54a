/- The law HoldNone, its walk. -/
import Derived.Test.YtjhkhdockiocgaaHold5
import Derived.Test.YtjhkhdockiocgaaL17a
import Derived.Test.YtjhkhdockiocgaaT
import Derived.RangeFuncNested
import Derived.RangeFuncBound
import Derived.RangeFuncCalls
import Derived.RangeFuncLeaves
import Derived.RangeFuncFrom
import Derived.Shelf.Abstract
import Derived.Shelf.RegionOpen
import Derived.OwnWalkIn
import Derived.TacticsInMore
import Derived.LoopNIn
import Derived.LoopIn
import Derived.Sort.QuietIn
namespace Go.Proofs.Ytjhkhdockiocgaa
open Go.RowKit Go.Cat Go.Shelf
attribute [local go_sem] Oper.semAt_some

/-- Over a table that isn't there the iterator tells nothing. -/
theorem all_none (F : Fence) (n : Nat) (hf : F.fn 95) (hro : F.round = none) (_ : 1 ≤ n) (b : Nat) (w : World) (hb : w.cell? ⟨b, 0, none⟩ = some (.pointer none)) :
    SeqStopsK (α := Empty) F n Try.prog 95 #[.pointer (some ⟨b, 0, none⟩)] (fun x => x.elim) (Below w.heap.size) (fun _ => True) (fun _ => False) 0 w := by
  intro l J Jx W hW hJ hJx hY h0
  have hbl : b < w.heap.size := World.block_lt_of_cell? w _ hb
  have hb' : W.cell? ⟨b, 0, none⟩ = some (.pointer none) := by rw [World.cell?_of_block (hW.block b hbl)]; exact hb
  refine callsIn_of_wp Try.func95 rfl hf ?_ hro
  simp only [Try.ntmps95, List.size_toArray, List.length_cons, List.length_nil, Nat.reduceAdd, Nat.reduceSub, Array.replicate_succ, Array.replicate_zero, List.push_toArray, List.append_toArray, List.nil_append, List.cons_append]
  gi_wp2
  refine bodyPost_ret (v := .tuple #[]) (results_none rfl _ _ _) rfl ?_
  exact ⟨⟨_, rfl⟩, [], h0⟩

theorem cat_str (a b : List UInt8) : (⟨a.toArray⟩ : ByteArray) ++ ⟨b.toArray⟩ = ⟨(a ++ b).toArray⟩ := by
  apply ByteArray.ext
  simp
theorem rb_lit1 (w : World) (c : UInt8) (T : TypeId) : RB (w.alloc (.cells (bs [c]).toArray T)) (.slice (some ⟨w.heap.size, 0, none⟩) 1 1) [c] := by
  refine ⟨by simp, .inr ⟨_, 0, _, rfl, Nat.le_refl _, by simp only [maxLen]; omega, by simp, fun j u hj => ?_⟩⟩
  rw [Nat.zero_add, World.cell?_alloc_new]
  simpa using hj
def hN (k : Nat) : Hld := ⟨[104, UInt8.ofNat (97 + k)], [], k, k + 1⟩
def tabN : Nat → HD
  | 0 => .map []
  | k + 1 => addTab (tabN k) (hN k)
theorem codeN : ∀ k : Fin 17, addCode (tabN k) (hN k) = if k.1 < 16 then 0 else 6 := by decide +kernel
theorem codeM : addCode (tabN 17) ⟨[109, 111, 114, 101], [], 0, 5⟩ = 6 := by decide +kernel
theorem has15 : Has (tabN 17) (.string [104, 112]) (hN 15) := fun zd => by kernel_rfl
theorem tabN_isMap : ∀ k, Maps.IsMap (tabN k)
  | 0 => Maps.isMap_empty
  | k + 1 => by
    show Maps.IsMap (addTab (tabN k) (hN k))
    unfold addTab
    split
    · exact (tabN_isMap k).put _ _
    · exact tabN_isMap k
theorem tabN_has : ∀ k, k ≤ 17 → ∀ key h, Has (tabN k) key h → ∃ j, j < 16 ∧ h = hN j
  | 0, _, _, _, hh => (has_none hh).elim
  | k + 1, hk, key, h, hh => by
    have hc := codeN ⟨k, by omega⟩
    simp only at hc
    have hh' : Has (addTab (tabN k) (hN k)) key h := hh
    unfold addTab at hh'
    by_cases h16 : k < 16
    · rw [if_pos h16] at hc
      rw [if_pos hc] at hh'
      rcases has_put (tabN_isMap k) hh' with ⟨_, e⟩ | e
      · exact ⟨k, h16, e⟩
      · exact tabN_has k (by omega) key h e
    · rw [if_neg h16] at hc
      rw [if_neg (by rw [hc]; decide)] at hh'
      exact tabN_has k (by omega) key h hh'
theorem res17 (tmps : Array Value) (w : World) (b : Nat) {v : Value} (ht : tmps.getD 6 undef = .pointer (some ⟨b, 0, none⟩)) (hc : w.cell? ⟨b, 0, none⟩ = some v) : (results Try.f13 tmps).run Try.prog w = .ok v w := by
  have h : Try.f13.results = #[.cell 6 4] := rfl
  have hl := run_loadAt_one (P := Try.prog) w 4 (by kernel_rfl) ⟨b, 0, none⟩ v hc
  have ht' : tmps[6]?.getD undef = .pointer (some ⟨b, 0, none⟩) := by simpa using ht
  simp only [results, h]
  simp [Instr.loadAt, Instr.sureAddr] at hl
  simp [ht', asAddr, hl]
set_option maxRecDepth 100000 in
set_option maxHeartbeats 2000000 in
theorem none17 (s : List UInt8) (x lo hi : Int) (w : World) :
    Calls Try.prog 13 #[.string ⟨s.toArray⟩, .int .i64 x, .agg #[.int .i64 lo, .int .i64 hi]] w fun e w' => e = .returned (.bool true) ∧ Chg (fun _ => False) w w' := by
  refine (callsIn_wide (n := 5)).1 ?_
  have h1 : 1 ≤ 5 := by omega
  refine callsIn_of_wp_marks Try.func13 rfl trivial ?_ rfl
  simp only [Try.ntmps13, List.size_toArray, List.length_cons, List.length_nil, Nat.reduceAdd, Nat.reduceSub, Array.replicate_succ, Array.replicate_zero, List.push_toArray, List.append_toArray, List.nil_append, List.cons_append]
  obtain ⟨w0, hw0⟩ : ∃ w0, w0 = (w.alloc (.cells #[.int .i64 lo, .int .i64 hi] 24)).alloc (.cells #[.bool false] 4) := ⟨_, rfl⟩
  have c0 : Chg (fun _ => False) w w0 := by rw [hw0]; exact ((Chg.refl _ w).alloc _).alloc _
  have z0 : Hid (w0.heap.size = w.heap.size + 2) := by show _ = _; rw [hw0]; simp
  have HA0 : Hid (w0.heap[w.heap.size]? = some (.cells #[.int .i64 lo, .int .i64 hi] 24 (0, 0))) := by rw [hw0]; exact ((Chg.refl (fun _ => False) _).alloc _).heap (heap_at_new _ _ _ rfl) (fun h => h)
  have HR0 : Hid (w0.heap[w.heap.size + 1]? = some (.cells #[.bool false] 4 (0, 0))) := by rw [hw0]; exact heap_at_new _ _ _ (by simp)
  have HW0 := Lib.hid hw0
  have HC0 := Lib.hid c0
  clear hw0 c0
  gi_wp2
  refine ⟨trivial, (callsIn_wide.2 (lives17 _)).mono ?_⟩
  rintro e w1 ⟨rfl, c1⟩
  rw [← HW0.out] at c1
  have HA1 := Lib.hid (c1.heap HA0.out (fun h => h))
  have HR1 := Lib.hid (c1.heap HR0.out (fun h => h))
  have HC1 : Hid (Chg (fun _ => False) w w1) := HC0.out.trans c1
  have z1 : Hid (w.heap.size + 2 ≤ w1.heap.size) := by have := z0.out; have := c1.size; show _ ≤ _; omega
  clear c1 HA0 HR0 HC0 HW0 z0
  by_cases h100 : 100 < s.length
  · have i100 : (100 : Int) < s.length := by omega
    gi_wp2
    refine ⟨trivial, (callsIn_wide.2 (lives17 _)).mono ?_⟩
    rintro e w2 ⟨rfl, c2⟩
    have HR2 := Lib.hid (c2.heap HR1.out (fun h => h))
    have q1 : w2.cell? ⟨w.heap.size + 1, 0, none⟩ = some (.bool false) := by rw [cell_of_heap HR2.out]; rfl
    have q2 : w2.frozen? ⟨w.heap.size + 1, 0, none⟩ = false := frozen_of_heap HR2.out _
    gi_wp2
    have c2s : Chg (fun q => q = w.heap.size + 1) w2 (w2.setCell ⟨w.heap.size + 1, 0, none⟩ (.bool true)) := (Chg.refl (fun q => q = w.heap.size + 1) w2).setCell (p := ⟨w.heap.size + 1, 0, none⟩) (fun _ => rfl) _
    refine ⟨.bool true, res17 _ _ (w.heap.size + 1) rfl (by rw [cell_of_heap (Cat.heap_setCell_same HR2.out 0 _)]; rfl), rfl, (HC1.out.trans c2).new c2s (fun q h => by omega)⟩
  have i100 : ¬ (100 : Int) < s.length := by omega
  clear h100
  gi_wp2
  refine ⟨trivial, (callsIn_wide.2 (nall _ _)).mono ?_⟩
  rintro e w2 ⟨rfl, hw2⟩
  gi_wp2
  rw [← hw2]
  have c12 : Chg (fun _ => False) w1 w2 := by rw [hw2]; exact (Chg.refl _ w1).alloc _
  have hz : w2.heap.size = w1.heap.size + 1 := by rw [hw2]; simp
  have HA2 := Lib.hid (c12.heap HA1.out (fun h => h))
  have HR2 := Lib.hid (c12.heap HR1.out (fun h => h))
  have hcd : w2.cell? ⟨w1.heap.size, 0, none⟩ = some (.pointer none) := by rw [hw2, cell_of_heap (heap_at_new _ _ _ rfl)]; rfl
  have HC2 : Hid (Chg (fun _ => False) w w2) := HC1.out.trans c12
  have z2 : Hid (w.heap.size + 3 ≤ w2.heap.size) := by have := z1.out; show _ ≤ _; omega
  clear hw2
  refine wpIn_rangeFunc_ownF (α := Empty) rfl h1 (gf := 95) (lb := #[.pointer (some ⟨w1.heap.size, 0, none⟩)]) rfl trivial (enters_of Try.func95 (by kernel_rfl) rfl)
    (all_none Fence.wide 4 trivial rfl (by omega) w1.heap.size w2 hcd) belowK_t (belowK_b (Nat.le_refl _)) (Below.refl _ _) (fun x => x.elim)
    (fun _ W => Below w2.heap.size w2 W)
    (fun _ _ _ => False)
    (ownFrom_below (Nat.le_refl _) (Nat.le_refl _))
    (fun _ _ _ _ _ hs _ _ => hs)
    (Below.refl _ _)
    (fun x => x.elim) (fun _ x => x.elim) (fun _ _ x => x.elim) ?done ?stop
  case done =>
    rintro D ys W hD _ hB hK
    have hAW : Hid (W.heap[w.heap.size]? = some (.cells #[.int .i64 lo, .int .i64 hi] 24 (0, 0))) := by show _ = _; rw [hB.block _ (by have := z2.out; omega)]; exact HA2.out
    have hRW : Hid (W.heap[w.heap.size + 1]? = some (.cells #[.bool false] 4 (0, 0))) := by show _ = _; rw [hB.block _ (by have := z2.out; omega)]; exact HR2.out
    have HCW : Hid (Chg (fun _ => False) w W) := HC2.out.new (Chg.of_below hB) (fun q h => by have := z2.out; omega)
    have hDl : D < W.heap.size := (Array.getElem?_eq_some_iff.1 hK).1
    have HK := Lib.hid hK
    have zW : Hid (w.heap.size + 3 ≤ W.heap.size) := by have := z2.out; have := hB.size; show _ ≤ _; omega
    have hDw : w.heap.size + 3 ≤ D := by have := z2.out; omega
    clear hK hB HA2 HR2 HC2 z2 hcd c12 hz HC1 HA1 HR1 z1
    gi_wp2
    refine ⟨trivial, (callsIn_wide.2 (nadd ⟨[], [], 0, 0⟩ W)).mono ?_⟩
    rintro e W1 ⟨rfl, C1⟩
    gi_wp2
    refine ⟨trivial, (callsIn_wide.2 (nrelease [97] W1)).mono ?_⟩
    rintro e _ ⟨rfl, rfl⟩
    gi_wp2
    refine ⟨trivial, (callsIn_wide.2 (ncovers s x W1)).mono ?_⟩
    rintro e _ ⟨rfl, rfl⟩
    have a0 : W1.cell? ⟨w.heap.size, 0, none⟩ = some (.int .i64 lo) := by rw [cell_of_heap (C1.heap hAW.out (fun h => h))]; rfl
    have a1 : W1.cell? ⟨w.heap.size, 1, none⟩ = some (.int .i64 hi) := by rw [cell_of_heap (C1.heap hAW.out (fun h => h))]; rfl
    gi_wp2
    refine ⟨trivial, (callsIn_wide.2 (nmeets s lo hi W1)).mono ?_⟩
    rintro e W2 ⟨rfl, C2⟩
    clear a0 a1
    gi_wp2
    refine ⟨trivial, (callsIn_wide.2 (nany s W2)).mono ?_⟩
    rintro e _ ⟨rfl, rfl⟩
    gi_wp2
    refine ⟨trivial, (callsIn_wide.2 (nlen W2)).mono ?_⟩
    rintro e _ ⟨rfl, rfl⟩
    gi_wp2
    refine ⟨trivial, (callsIn_wide.2 (ncopy W2)).mono ?_⟩
    rintro e _ ⟨rfl, rfl⟩
    gi_wp2
    refine ⟨trivial, (callsIn_wide.2 (new_tab W2)).mono ?_⟩
    rintro e W3 ⟨b, rfl, t3, C3⟩
    have T3 := Lib.hid t3
    have C13 : Hid (Chg (fun _ => False) W W3) := (C1.trans C2).trans C3
    have hW2 : W.heap.size ≤ W2.heap.size := (C1.trans C2).size
    clear t3 C1 C2 C3
    gi_wp2
    refine wpIn_wide.2 ?_
    go_loopw [9, 10, 59] (fun _ _ i wr => ∃ k : Nat, k ≤ 17 ∧ i = .int .i64 k ∧ Hid (TabAt wr (fun q => W2.heap.size ≤ q) b (tabN k) k) ∧ Hid (Chg (fun _ => False) W wr)) (fun _ _ i _ => 17 - (intOf i).toNat)
    case atStart => exact ⟨0, by omega, rfl, T3.out, C13.out⟩
    case round =>
      obtain ⟨k, hk, rfl, hT, hG⟩ := hrel
      by_cases hlt : k < 17
      · have hkI : (k : Int) < 17 := by omega
        have hw1 : wrap64 ((k : Int) + 1) = (k : Int) + 1 := by unfold wrap64; omega
        have hb1 : IntKind.u8.wrap (k : Int) = k := by rw [IntKind.wrap_u8]; omega
        have hb2 : IntKind.u8.wrap (97 + (k : Int)) = 97 + k := by rw [IntKind.wrap_u8]; omega
        obtain ⟨c, hc⟩ : ∃ c, c = UInt8.ofNat (97 + k) := ⟨_, rfl⟩
        have hu : (c.toNat : Int) = 97 + k := by rw [hc, toNat_ofNat_lt _ (by omega)]; omega
        have hcv := convb (wr.alloc (.cells (bs [c]).toArray 5)) _ _ (rb_lit1 wr c 5)
        simp only [bs, List.map_cons, List.map_nil, hu] at hcv
        have hcat : (⟨#[104]⟩ : ByteArray) ++ ⟨#[c]⟩ = ⟨#[104, c]⟩ := cat_str [104] [c]
        have hNk : hN k = ⟨[104, c], [], k, k + 1⟩ := by rw [hc]; rfl
        have hcode := codeN ⟨k, hlt⟩
        simp only at hcode
        have A1 := Lib.hid (fun w h => add_any w (fun q => W2.heap.size ≤ q) b (tabN k) k (hN k) h (by omega) (by simp [hN, maxLen]))
        rw [show addTab (tabN k) (hN k) = tabN (k + 1) from rfl, hcode, hNk] at A1
        have z3 := hG.out.size
        clear hu hcode hc hNk
        obtain ⟨w4, hw4⟩ : ∃ w4, w4 = (wr.alloc (.cells #[.int .u8 (97 + (k : Int))] 5)).alloc (.cells #[.string ⟨#[104, c]⟩, .string ⟨#[]⟩, .int .i64 k, .int .i64 (k + 1)] 28) := ⟨_, rfl⟩
        have c4 : Chg (fun _ => False) wr w4 := by rw [hw4]; exact ((Chg.refl _ wr).alloc _).alloc _
        have HT4 := Lib.hid (hT.out.kept c4 (fun _ _ h => h))
        have HG4 : Hid (Chg (fun _ => False) W w4) := hG.out.trans c4
        go_wp2_with fail
        rw [← hw4]
        clear hw4 hcv hcat
        refine (A1.out w4 HT4.out).mono ?_
        rintro e w5 ⟨rfl, h5, c5⟩
        have H5 := Lib.hid h5
        have G5 : Hid (Chg (fun _ => False) W w5) := HG4.out.new c5 (fun q h => by omega)
        clear h5 c5
        by_cases h16 : k < 16
        · have i16 : (k : Int) < 16 := by omega
          rw [if_pos h16]
          go_wp2_with fail
          exact ⟨⟨k + 1, by omega, rfl, H5.out, G5.out⟩, by simp only [intOf]; omega⟩
        · have i16 : ¬ (k : Int) < 16 := by omega
          rw [if_neg h16]
          go_wp2_with fail
          exact ⟨⟨k + 1, by omega, rfl, H5.out, G5.out⟩, by simp only [intOf]; omega⟩
      · obtain rfl : k = 17 := by omega
        have hco := codeM
        have A1 := Lib.hid (add_any wr _ b (tabN 17) 17 ⟨[109, 111, 114, 101], [], 0, 5⟩ hT.out (by omega) (by simp [maxLen]))
        rw [codeM, addTab_no (by rw [codeM]; decide)] at A1
        clear hco
        have z3 := hG.out.size
        go_wp2_with fail
        gi_wp2
        refine ⟨trivial, (callsIn_wide.2 A1.out).mono ?_⟩
        rintro e w5 ⟨rfl, h5, c5⟩
        have H5 := Lib.hid h5
        have G5 : Hid (Chg (fun _ => False) W w5) := hG.out.new c5 (fun q h => by omega)
        clear h5 c5
        gi_wp2
        refine ⟨trivial, (callsIn_wide.2 (covers_any w5 _ b (tabN 17) 18 s 15 H5.out)).mono ?_⟩
        rintro e w6 ⟨r, rfl, hr, c6⟩
        obtain rfl := hr.2 ⟨_, _, has15, of_decide_eq_true (by simp [Hld.of, hN]), by simp [hN], by simp [hN]⟩
        have H6 := Lib.hid (H5.out.kept c6 (fun _ _ h => h))
        have G6 : Hid (Chg (fun _ => False) W w6) := G5.out.trans c6
        clear hr c6
        gi_wp2
        refine ⟨trivial, (callsIn_wide.2 (covers_any w6 _ b (tabN 17) 18 s 16 H6.out)).mono ?_⟩
        rintro e w7 ⟨r, rfl, hr, c7⟩
        obtain rfl : r = false := by
          cases r with
          | false => rfl
          | true =>
            obtain ⟨key, h, hh, _, h2, h3⟩ := hr.1 rfl
            obtain ⟨j, hj, rfl⟩ := tabN_has 17 (by omega) key h hh
            simp only [hN] at h2 h3
            omega
        have G7 : Hid (Chg (fun _ => False) W w7) := G6.out.trans c7
        have hR7 : Hid (w7.heap[w.heap.size + 1]? = some (.cells #[.bool false] 4 (0, 0))) := G7.out.heap hRW.out (fun h => h)
        have q1 : w7.cell? ⟨w.heap.size + 1, 0, none⟩ = some (.bool false) := by rw [cell_of_heap hR7.out]; rfl
        have q2 : w7.frozen? ⟨w.heap.size + 1, 0, none⟩ = false := frozen_of_heap hR7.out _
        clear hr c7
        gi_wp2
        have c78 : Chg (fun q => q = w.heap.size + 1) w7 (w7.setCell ⟨w.heap.size + 1, 0, none⟩ (.bool true)) := (Chg.refl (fun q => q = w.heap.size + 1) w7).setCell (p := ⟨w.heap.size + 1, 0, none⟩) (fun _ => rfl) _
        have hR8 := Cat.heap_setCell_same hR7.out 0 (.bool true)
        obtain ⟨w8, hw8⟩ : ∃ w8, w8 = w7.setCell ⟨w.heap.size + 1, 0, none⟩ (.bool true) := ⟨_, rfl⟩
        rw [← hw8] at c78 hR8 ⊢
        have hK' : w8.heap[D]? = some (.deferred (some [])) := c78.heap (G7.out.heap HK.out (fun h => h)) (fun h => by omega)
        refine ⟨by simp, .inl ⟨_, _, rfl, run_takeDeferred hK', ?_⟩⟩
        have cP : Chg (fun q => q = D) w8 (w8.putObj D (.deferred none)) := ⟨rfl, rfl, rfl, by simp, fun q _ hq => World.putObj_heap_other hq⟩
        refine ⟨.bool true, res17 _ _ (w.heap.size + 1) rfl (by rw [cell_of_heap (cP.heap hR8 (fun h => by omega))]; rfl), rfl, ?_⟩
        have cA : Chg (fun _ => False) w w8 := (HCW.out.trans G7.out).new c78 (fun q h => by omega)
        exact cA.new cP (fun q h => by omega)
  case stop =>
    rintro D c pre W _ h _
    exact h.elim
end Go.Proofs.Ytjhkhdockiocgaa
