/- The iterator of a series that is there: its points, rising. -/
import Derived.Test.YtmnnahkaenikkaaSer9
import Derived.Test.YtmnnahkaenikkaaKeepB
namespace Go.Proofs.Ytmnnahkaenikkaa
open Go.RowKit Go.Cat Go.Shelf
attribute [local go_sem] Oper.semAt_some
def mkP (p : Pt) : Value := .agg #[.int .i64 p.tk, .int .i64 p.val]
set_option maxRecDepth 100000 in
set_option maxHeartbeats 2000000 in
theorem serall_in (xs : List Pt) (n : Nat) (hn : 1 ≤ n) (l Bx R m : Nat) (va : Option Addr) (vc : Nat) (Tk : Nat → Prop) (hm : xs.length = m) (hm2 : m ≤ 1000000) (J Jx : List Pt → World → Prop) (B : Nat) (W : World) (hBW : B ≤ W.heap.size) (hJ : AbidesFrom W.heap.size J)
    (hY : ∀ pre x W, J pre W → pre.length < m → YieldAt Fence.wide (n - 1) Try.prog l #[mkP x] W fun e W' =>
      (e = .returned (.bool true) ∧ J (pre ++ [x]) W' ∧ KeepS B Tk W W') ∨ (e = .returned (.bool false) ∧ Jx (pre ++ [x]) W'))
    (hBx : W.cell? ⟨Bx, 0, none⟩ = some (.pointer (some ⟨R, 0, none⟩))) (hb : W.cell? ⟨R, 0, none⟩ = some (.slice va m vc)) (hp : Pts W (.slice va m vc) xs)
    (k1 : Bx < B ∧ ¬ Tk Bx) (k2 : R < B ∧ ¬ Tk R) (k3 : ∀ q, (Value.slice va m vc).ownBlock = some q → q < B ∧ ¬ Tk q) (h0 : J [] W) :
    CallsIn Fence.wide n Try.prog 93 #[.func (.yield l) #[] #[], .pointer (some ⟨Bx, 0, none⟩)] W fun e W' => (∃ v, e = .returned v) ∧
      ((∃ ys, ys = xs ∧ J ys W') ∨ (∃ pre, (∃ k, k ≤ m ∧ pre = xs.take k) ∧ Jx pre W')) := by
  have HP := Lib.hid hp
  have HM := Lib.hid hm
  have HK3 := Lib.hid k3
  clear hp hm k3
  refine callsIn_of_wp Try.func93 rfl trivial ?_ rfl
  simp only [Try.ntmps93, List.size_toArray, List.length_cons, List.length_nil, Nat.reduceAdd, Nat.reduceSub, Array.replicate_succ, Array.replicate_zero, List.push_toArray, List.append_toArray, List.nil_append, List.cons_append]
  gi_wp2
  gi_loopw [4, 12] (fun _ i wr => ∃ k : Nat, k ≤ m ∧ i = .int .i64 k ∧ J (xs.take k) wr ∧ KeepS B Tk W wr ∧ B ≤ wr.heap.size) (fun _ i _ => m - (intOf i).toNat)
  case atStart => exact ⟨0, Nat.zero_le _, rfl, h0, KeepS.refl _ _ _, hBW⟩
  case round =>
    obtain ⟨k, hk, rfl, hJs, hKp, hkz⟩ := hrel
    by_cases hlt : k < m
    · obtain ⟨x, hx⟩ := at_lt (show k < xs.length by rw [HM.out]; exact hlt)
      obtain ⟨g, o, rfl, h1, h2, h3⟩ := reads_some (n := m) (by have := HP.out; unfold Pts at this; rw [HM.out] at this; exact this) (by omega)
      have kq := HK3.out g rfl
      obtain ⟨hld0, hld1⟩ := pt_cells (w := wr) (fun j u hj => by rw [World.cell?_of_block (w := W) (w' := wr) (hKp.1.1 g kq.1 kq.2)]; exact h3 j u hj) hx
      obtain ⟨Wb, hWb⟩ : ∃ W, W = wr.alloc (.cells #[.int .i64 x.tk, .int .i64 x.val] 32) := ⟨_, rfl⟩
      have cb : Chg (fun _ => False) wr Wb := by rw [hWb]; exact (Chg.refl _ wr).alloc _
      have hJb := hJ _ wr Wb none hJs (chg_grown cb) (fun r e => by cases e)
      have hT : Hid (xs.take (k + 1) = xs.take k ++ [x]) := by show _ = _; rw [List.take_add_one, hx]; rfl
      obtain ⟨fn, tmps, assign, body, hy, hR⟩ := hY (xs.take k) x Wb hJb (by rw [List.length_take, HM.out]; omega)
      have HKB : Hid (KeepS B Tk wr Wb) := KeepS.same cb hkz
      have HKP := Lib.hid hKp
      have hRR := Lib.hid hR
      have HWB := Lib.hid hWb
      rw [hWb] at hy
      clear hJs h1 h2 h3 hx hKp cb hJb hR hWb
      unfold mkP at hy
      gi_wp2
      rw [← HWB.out]
      refine hRR.out.mono ?_
      rintro e W3 (⟨rfl, hJ3, hk3⟩ | ⟨rfl, hJx3⟩)
      · gi_wp2
        exact ⟨⟨k + 1, by omega, rfl, by rw [hT.out]; exact hJ3, keepS_t HKP.out (keepS_t HKB.out hk3), Nat.le_trans hkz (Nat.le_trans HKB.out.2 hk3.2)⟩, by simp only [intOf]; omega⟩
      · gi_wp2
        refine bodyPost_ret (v := .tuple #[]) (results_none rfl _ _ _) rfl ?_
        exact ⟨⟨_, rfl⟩, .inr ⟨_, ⟨k + 1, by omega, rfl⟩, by rw [hT.out]; exact hJx3⟩⟩
    · obtain rfl : k = m := by omega
      gi_wp2
      go_end0
      rw [List.take_of_length_le (by rw [HM.out]; exact Nat.le_refl _)] at hJs
      exact ⟨⟨_, rfl⟩, .inl ⟨_, rfl, hJs⟩⟩
theorem serall_stops (xs : List Pt) (n : Nat) (hn : 1 ≤ n) (Bx R : Nat) (v : Value) (Tk : Nat → Prop) (w : World) (h : Ser w R v xs)
    (hBx : w.cell? ⟨Bx, 0, none⟩ = some (.pointer (some ⟨R, 0, none⟩))) (h1 : ¬ Tk Bx) (h2 : ¬ Tk R) (h3 : ∀ q, v.ownBlock = some q → ¬ Tk q) :
    SeqStopsK (α := Pt) Fence.wide n Try.prog 93 #[.pointer (some ⟨Bx, 0, none⟩)] (fun x => #[mkP x]) (KeepS w.heap.size Tk) (fun ys => ys = xs) (fun pre => ∃ k, k ≤ xs.length ∧ pre = xs.take k) xs.length w := by
  intro l J Jx W hW hJ hJx hY h0
  have b1 := World.block_lt_of_cell? w _ hBx
  have b2 := h.lt
  have few := h.few
  obtain ⟨va, vc, rfl⟩ := Reads.form h.pts
  refine serall_in xs n hn l Bx R _ va vc Tk rfl (by omega) J Jx w.heap.size W hW.size hJ hY (by rw [World.cell?_of_block (hW.block Bx b1)]; exact hBx) (by rw [World.cell?_of_block (hW.block R b2.1)]; exact h.at_.cell) (Reads.kept h.pts (Chg.of_below hW) (fun k hk h' => ?_)) ⟨b1, h1⟩ ⟨b2.1, h2⟩ (fun q hq => ⟨b2.2 q hq, h3 q hq⟩) h0
  have h4 := b2.2 k hk
  omega
end Go.Proofs.Ytmnnahkaenikkaa
