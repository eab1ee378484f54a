/- Contracts of slices.Chunk of bytes, its iterator: whole sectors of 64 bytes. -/
import Derived.Test.YtjhkhdockiocgaaT
import Derived.Test.YtjhkhdockiocgaaOctet
import Derived.RangeFuncNested
import Derived.RangeFuncBound
import Derived.RangeFuncCalls
import Derived.RangeFuncLeaves
import Derived.RangeFuncFrom
import Derived.Shelf.Abstract
import Derived.Shelf.RegionOpen
import Derived.OwnWalkIn
import Derived.TacticsInMore
import Derived.LoopNIn
import Derived.LoopIn
import Derived.Sort.QuietIn
namespace Go.Proofs.Ytjhkhdockiocgaa
open Go.RowKit Go.Cat Go.Shelf
attribute [local go_sem] Oper.semAt_some

/-- The two boxes lie as they lay. -/
def Keep2 (a b : Nat) (W W' : World) : Prop := W'.heap[a]? = W.heap[a]? ∧ W'.heap[b]? = W.heap[b]?
theorem Keep2.refl (a b : Nat) (W : World) : Keep2 a b W W := ⟨rfl, rfl⟩
theorem keep2_t {a b : Nat} {A B C : World} (h : Keep2 a b A B) (k : Keep2 a b B C) : Keep2 a b A C := ⟨k.1.trans h.1, k.2.trans h.2⟩
theorem keep2_b {a b : Nat} {w : World} (ha : a < w.heap.size) (hb : b < w.heap.size) (W : World) (l : Nat) (o o' : Obj) (hl : w.heap.size ≤ l) (_ : W.heap[l]? = some o) (_ : o.isCells = false) (_ : o.isWalk = false) : Keep2 a b W (W.putObj l o') :=
  ⟨World.putObj_heap_other (by omega), World.putObj_heap_other (by omega)⟩
abbrev secV (g o i : Nat) : Value := .slice (some ⟨g, o + i * 64, none⟩) 64 64

set_option maxRecDepth 100000 in
theorem chunk_any (w : World) (a : Option Addr) (n c : Nat) :
    Calls Try.prog 114 #[.slice a n c, .int .i64 64] w fun e w' => e = .returned (.func (.func 132) #[] #[.pointer (some ⟨w.heap.size, 0, none⟩), .pointer (some ⟨w.heap.size + 1, 0, none⟩)]) ∧
      w' = (w.alloc (.cells #[.slice a n c] 33)).alloc (.cells #[.int .i64 64] 3) := by
  go_enter Try.func114, Try.ntmps114
  go_wp2_with fail
  go_ret
  exact ⟨rfl, rfl⟩

theorem step64 (k : Nat) : Value.int .i64 ((k : Int) * 64 + 64) = .int .i64 (((k + 1) * 64 : Nat) : Int) := by
  congr 1; omega
theorem meas64 (k m : Nat) (h : k < m) : m * 64 - (intOf (.int .i64 ((k : Int) * 64 + 64))).toNat < m * 64 - (intOf (.int .i64 ((k * 64 : Nat) : Int))).toNat := by
  simp only [intOf]; omega
theorem slice_loP (w : World) (a : Option Addr) (n c lo : Nat) (h1 : lo ≤ n) (h2 : n ≤ c) :
    (Instr.sliceAt 33 (.slice a n c) (some (.int .i64 lo)) none none).run Try.prog w = .ok (.slice (if c = lo then a else a.map (·.add (lo * 1))) (n - lo) (c - lo)) w := by
  have h4 : (lo : Int) ≤ n := by omega
  simp [go_sem, Instr.sliceAt, Instr.slice, Instr.sliceBounds, h4]
theorem slice_three (w : World) (g o n c lo : Nat) (h1 : lo + 64 ≤ c) :
    (Instr.sliceAt 33 (.slice (some ⟨g, o, none⟩) n c) (some (.int .i64 lo)) (some (.int .i64 ((lo + 64 : Nat) : Int))) (some (.int .i64 ((lo + 64 : Nat) : Int)))).run Try.prog w = .ok (.slice (some ⟨g, o + lo, none⟩) 64 64) w := by
  have h4 : ((lo + 64 : Nat) : Int) ≤ c := by omega
  have h5 : (lo : Int) ≤ ((lo + 64 : Nat) : Int) := by omega
  have h6 : ¬ ((lo + 64 : Nat) : Int) < 0 := by omega
  have e1 : (0 : Int) ≤ (lo : Int) + 64 ∧ (lo : Int) + 64 ≤ c := by omega
  have e2 : (0 : Int) ≤ (lo : Int) + 64 ∧ (lo : Int) + 64 ≤ max ((lo : Int) + 64) 0 := by omega
  have e3 : ((lo : Int) + 64).toNat = lo + 64 := by omega
  simp [go_sem, Instr.sliceAt, Instr.slice, Instr.sliceBounds, h4, h5, h6]
  rw [if_pos e1, if_pos e2, e3, if_pos (by omega), if_neg (by omega)]
  simp
set_option maxRecDepth 100000 in
set_option maxHeartbeats 2000000 in
theorem chunk_in {α : Type} (xs : List α) (idx : α → Nat) (n : Nat) (_ : 1 ≤ n) (l Bs Bn g o m cap : Nat) (hxs : xs.map idx = List.range m) (hm : m ≤ 1000000) (hcap : m * 64 ≤ cap) (J Jx : List α → World → Prop) (B : Nat) (hJ : AbidesFrom B J)
    (hY : ∀ pre x W, J pre W → pre.length < m → YieldAt Fence.wide (n - 1) Try.prog l #[secV g o (idx x)] W fun e W' =>
      (e = .returned (.bool true) ∧ J (pre ++ [x]) W' ∧ Keep2 Bs Bn W W') ∨ (e = .returned (.bool false) ∧ Jx (pre ++ [x]) W'))
    (W : World) (hBs : W.cell? ⟨Bs, 0, none⟩ = some (.slice (some ⟨g, o, none⟩) (m * 64) cap)) (hBn : W.cell? ⟨Bn, 0, none⟩ = some (.int .i64 64)) (h0 : J [] W) :
    CallsIn Fence.wide n Try.prog 132 #[.func (.yield l) #[] #[], .pointer (some ⟨Bs, 0, none⟩), .pointer (some ⟨Bn, 0, none⟩)] W fun e W' => (∃ v, e = .returned v) ∧
      ((∃ ys, ys = xs ∧ J ys W') ∨ (∃ pre, (∃ k, k ≤ m ∧ pre = xs.take k) ∧ Jx pre W')) := by
  have hlx : xs.length = m := by rw [← List.length_map (f := idx), hxs, List.length_range]
  have HXS := Lib.hid hxs
  have HLX := Lib.hid hlx
  clear hxs hlx
  refine callsIn_of_wp Try.func132 rfl trivial ?_ rfl
  simp only [Try.ntmps132, List.size_toArray, List.length_cons, List.length_nil, Nat.reduceAdd, Nat.reduceSub, Array.replicate_succ, Array.replicate_zero, List.push_toArray, List.append_toArray, List.nil_append, List.cons_append]
  gi_wp2
  gi_loopw [4, 5] (fun i _ wr => ∃ k : Nat, k ≤ m ∧ i = .int .i64 ((k * 64 : Nat) : Int) ∧ J (xs.take k) wr ∧ Keep2 Bs Bn W wr) (fun i _ _ => m * 64 - (intOf i).toNat)
  case atStart => exact ⟨0, Nat.zero_le _, rfl, h0, Keep2.refl _ _ _⟩
  case round =>
    obtain ⟨k, hk, rfl, hJs, hKp⟩ := hrel
    have cBs : wr.cell? ⟨Bs, 0, none⟩ = some (.slice (some ⟨g, o, none⟩) (m * 64) cap) := by rw [World.cell?_of_block (w := W) (w' := wr) hKp.1]; exact hBs
    have cBn : wr.cell? ⟨Bn, 0, none⟩ = some (.int .i64 64) := by rw [World.cell?_of_block (w := W) (w' := wr) hKp.2]; exact hBn
    by_cases hlt : k < m
    · obtain ⟨x, hx⟩ : ∃ x, xs[k]? = some x := ⟨_, List.getElem?_eq_getElem (by rw [HLX.out]; exact hlt)⟩
      have hix : idx x = k := by
        have h1 : (xs.map idx)[k]? = some (idx x) := by rw [List.getElem?_map, hx]; rfl
        rw [HXS.out, List.getElem?_range hlt] at h1
        exact (Option.some.inj h1).symm
      have hT : Hid (xs.take (k + 1) = xs.take k ++ [x]) := by show _ = _; rw [List.take_add_one, hx]; rfl
      have hlk : (xs.take k).length = k := by rw [List.length_take, HLX.out]; omega
      have hY' := hY (xs.take k) x
      rw [hix] at hY'
      have YK := Lib.hid (fun q => hY' (wr.drewN q) (hJ _ wr _ none hJs ⟨rfl, rfl, rfl, Nat.le_refl _, fun _ _ _ => rfl⟩ (fun r e => by cases e)) (by rw [hlk]; exact hlt))
      clear hx hix hY' hlk
      have hlI : ((k * 64 : Nat) : Int) < ((m * 64 : Nat) : Int) := by omega
      have hmin : (if ((m * 64 - k * 64 : Nat) : Int) < 64 then ((m * 64 - k * 64 : Nat) : Int) else 64) = 64 := by split <;> omega
      have hs1 := fun w => slice_loP w (some ⟨g, o, none⟩) (m * 64) cap (k * 64) (by omega) hcap
      have hs2 := fun w => slice_three w g o (m * 64) cap (k * 64) (by omega)
      have hadd : wrap64 (((k * 64 : Nat) : Int) + 64) = ((k * 64 + 64 : Nat) : Int) := by unfold wrap64; omega
      gi_wp2
      refine wpIn_wide.2 ?_
      go_quiet (fail)
      obtain ⟨fn, tmps, assign, body, hy, hR⟩ := YK.out nq
      have dBs : (wr.drewN nq).cell? ⟨Bs, 0, none⟩ = some (.slice (some ⟨g, o, none⟩) (m * 64) cap) := cBs
      have dBn : (wr.drewN nq).cell? ⟨Bn, 0, none⟩ = some (.int .i64 64) := cBn
      have dK : Keep2 Bs Bn W (wr.drewN nq) := hKp
      obtain ⟨w2, hw2⟩ : ∃ w2, w2 = wr.drewN nq := ⟨_, rfl⟩
      rw [← hw2] at hy hR dBs dBn dK ⊢
      clear cBs cBn hKp hw2 YK hs1 hmin
      gi_wp2
      refine hR.mono ?_
      rintro e W3 (⟨rfl, hJ3, hk3⟩ | ⟨rfl, hJx3⟩)
      · have dBn3 : W3.cell? ⟨Bn, 0, none⟩ = some (.int .i64 64) := by rw [World.cell?_of_block (w := w2) (w' := W3) hk3.2]; exact dBn
        gi_wp2
        exact ⟨⟨k + 1, by omega, step64 k, by rw [hT.out]; exact hJ3, keep2_t dK hk3⟩, meas64 k m hlt⟩
      · gi_wp2
        refine bodyPost_ret (v := .tuple #[]) (results_none rfl _ _ _) rfl ?_
        exact ⟨⟨_, rfl⟩, .inr ⟨_, ⟨k + 1, by omega, rfl⟩, by rw [hT.out]; exact hJx3⟩⟩
    · obtain rfl : k = m := by omega
      gi_wp2
      go_end0
      rw [List.take_of_length_le (by rw [HLX.out]; exact Nat.le_refl _)] at hJs
      exact ⟨⟨_, rfl⟩, .inl ⟨_, rfl, hJs⟩⟩
theorem chunk_stops {α : Type} (xs : List α) (idx : α → Nat) (n : Nat) (hn : 1 ≤ n) (Bs Bn g o m cap : Nat) (hxs : xs.map idx = List.range m) (hm : m ≤ 1000000) (hcap : m * 64 ≤ cap) (w : World) (hBs : w.cell? ⟨Bs, 0, none⟩ = some (.slice (some ⟨g, o, none⟩) (m * 64) cap)) (hBn : w.cell? ⟨Bn, 0, none⟩ = some (.int .i64 64)) :
    SeqStopsK (α := α) Fence.wide n Try.prog 132 #[.pointer (some ⟨Bs, 0, none⟩), .pointer (some ⟨Bn, 0, none⟩)] (fun x => #[secV g o (idx x)]) (Keep2 Bs Bn) (fun ys => ys = xs) (fun pre => ∃ k, k ≤ m ∧ pre = xs.take k) m w := by
  intro l J Jx W hW hJ hJx hY h0
  have b1 := World.block_lt_of_cell? w _ hBs
  have b2 := World.block_lt_of_cell? w _ hBn
  exact chunk_in xs idx n hn l Bs Bn g o m cap hxs hm hcap J Jx W.heap.size hJ hY W (by rw [World.cell?_of_block (hW.block Bs b1)]; exact hBs) (by rw [World.cell?_of_block (hW.block Bn b2)]; exact hBn) h0
end Go.Proofs.Ytjhkhdockiocgaa
