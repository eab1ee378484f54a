/- The iterator of a table that is there: its holds by rising names. -/
import Derived.Test.YtjhkhdockiocgaaHold6
import Derived.Test.YtjhkhdockiocgaaHold7
import Derived.Test.YtjhkhdockiocgaaHold5
import Derived.Test.YtjhkhdockiocgaaT
import Derived.RangeFuncNested
import Derived.RangeFuncBound
import Derived.RangeFuncCalls
import Derived.RangeFuncLeaves
import Derived.RangeFuncFrom
import Derived.Shelf.Abstract
import Derived.Shelf.RegionOpen
import Derived.OwnWalkIn
import Derived.TacticsInMore
import Derived.LoopNIn
import Derived.LoopIn
import Derived.Sort.QuietIn
namespace Go.Cat
open Go.RowKit
/-- What lay below B and isn't of T is as it was; cells from B on, too. -/
def KeepB (B : Nat) (T : Nat → Prop) (W W' : World) : Prop := (∀ k, k < B → ¬ T k → W'.heap[k]? = W.heap[k]?) ∧ ∀ k c t f, B ≤ k → W.heap[k]? = some (.cells c t f) → W'.heap[k]? = some (.cells c t f)
theorem KeepB.refl (B : Nat) (T : Nat → Prop) (W : World) : KeepB B T W W := ⟨fun _ _ _ => rfl, fun _ _ _ _ _ h => h⟩
theorem KeepB.same {B : Nat} {T : Nat → Prop} {W W' : World} (c : Chg (fun _ => False) W W') (hB : B ≤ W.heap.size) : KeepB B T W W' := ⟨fun k hk _ => c.block k (by omega) (fun h => h), fun _ _ _ _ _ h => c.heap h (fun h => h)⟩
theorem keepB_t {B : Nat} {T : Nat → Prop} {A W C : World} (h : KeepB B T A W) (k : KeepB B T W C) : KeepB B T A C :=
  ⟨fun i hi ht => (k.1 i hi ht).trans (h.1 i hi ht), fun i c t f hi hc => k.2 i c t f hi (h.2 i c t f hi hc)⟩
theorem keepB_b {w : World} {T : Nat → Prop} (W : World) (l : Nat) (o o' : Obj) (hl : w.heap.size ≤ l) (hol : W.heap[l]? = some o) (hc : o.isCells = false) (_ : o.isWalk = false) : KeepB w.heap.size T W (W.putObj l o') :=
  ⟨fun k hk _ => World.putObj_heap_other (by omega), fun k c t f _ hk => by
    rw [World.putObj_heap_other (fun e => ?_)]
    · exact hk
    · rw [e, hol] at hk; cases hk; cases hc⟩
theorem heap_of_cell {w : World} {g i : Nat} {u : Value} (h : w.cell? ⟨g, i, none⟩ = some u) : ∃ c t f, w.heap[g]? = some (.cells c t f) := by
  unfold World.cell? at h
  cases hg : w.heap[g]? with
  | none => simp [hg] at h
  | some o =>
    cases o with
    | cells c t f => exact ⟨c, t, f, rfl⟩
    | _ => simp [hg] at h
end Go.Cat
namespace Go.Proofs.Ytjhkhdockiocgaa
open Go.RowKit Go.Cat Go.Shelf Go.Maps
attribute [local go_sem] Oper.semAt_some

/-- The holds xs are those of the keys ss. -/
def Holds (D : HD) (ss : List (List UInt8)) (xs : List Hld) : Prop := xs.length = ss.length ∧ ∀ (i : Nat) (s : List UInt8) (x : Hld), ss[i]? = some s → xs[i]? = some x → Has D (.string s) x
theorem look_one (w : World) (m n : Nat) (D : HD) (s : List UInt8) (hs : s.length ≤ maxLen) (x : Hld) (hx : Has D (.string s) x) (h : w.ownsMap Try.prog 9 holdR m n D) :
    (Instr.lookup 154 (.map (some m)) (.string ⟨s.toArray⟩) false).run Try.prog w = .ok (mkH x) w := by
  obtain ⟨v, ps, h1, h2⟩ := h.lookup strKey Try.underlying154 (zeroHold w) (zd := encH ⟨[], [], 0, 0⟩) (zp := []) (holdR_mk ⟨[], [], 0, 0⟩) (keyStr s hs)
  obtain ⟨y, rfl, h3⟩ := holdR_inv h2
  have h4 := hx (encH ⟨[], [], 0, 0⟩)
  have h5 : encH x = encH y := h4.symm.trans (Prod.mk.inj h3).1
  have h6 : y = x := (encH_inj h5).symm
  subst h6
  exact h1
theorem chg_grown {w w' : World} (c : Chg (fun _ => False) w w') : w.grownBy w' none := ⟨c.os, c.tape, c.output, c.size, fun k hk _ => c.block k hk (fun h => h)⟩

set_option maxRecDepth 100000 in
set_option maxHeartbeats 2000000 in
theorem all1_in {α : Type} (f : α → Hld) (xs : List α) (D : HD) (n : Nat) (hn : 1 ≤ n) (l Bx b m mm nn : Nat) (T : TypeId) (Tk : Nat → Prop) (hxs : Holds D ((strKeys D).mergeSort leB) (xs.map f)) (hm : (strKeys D).length = m) (hm2 : m ≤ 1000000) (hsz : Maps.size D ≤ 1000000) (hkl : ∀ s ∈ strKeys D, s.length ≤ maxLen) (J Jx : List α → World → Prop) (B : Nat) (W : World) (hBW : B ≤ W.heap.size) (hJ : AbidesFrom W.heap.size J)
    (hY : ∀ pre x W, J pre W → pre.length < m → YieldAt Fence.wide (n - 1) Try.prog l #[mkH (f x)] W fun e W' =>
      (e = .returned (.bool true) ∧ J (pre ++ [x]) W' ∧ KeepB B Tk W W') ∨ (e = .returned (.bool false) ∧ Jx (pre ++ [x]) W'))
    (hBx : W.cell? ⟨Bx, 0, none⟩ = some (.pointer (some ⟨b, 0, none⟩))) (hb : W.heap[b]? = some (.cells #[.map (some mm)] T (0, 0))) (hown : W.ownsMap Try.prog 9 holdR mm nn D)
    (k1 : Bx < B ∧ ¬ Tk Bx) (k2 : b < B ∧ ¬ Tk b) (k3 : mm < B ∧ ¬ Tk mm) (h0 : J [] W) :
    CallsIn Fence.wide n Try.prog 95 #[.func (.yield l) #[] #[], .pointer (some ⟨Bx, 0, none⟩)] W fun e W' => (∃ v, e = .returned v) ∧
      ((∃ ys, ys = xs ∧ J ys W') ∨ (∃ pre, (∃ k, k ≤ m ∧ pre = xs.take k) ∧ Jx pre W')) := by
  have x0 : W.cell? ⟨b, 0, none⟩ = some (.map (some mm)) := by rw [cell_of_heap hb]; rfl
  have KC := Lib.hid (keys_c (some mm) W)
  have SC := Lib.hid (sorted_c mm nn D W hown (by simp only [maxLen]; omega) (by omega))
  have HB := Lib.hid hb
  have HO := Lib.hid hown
  have HX := Lib.hid hxs
  have HM := Lib.hid hm
  have HKL := Lib.hid hkl
  rw [hm] at SC
  clear hb hown hxs hm hkl
  refine callsIn_of_wp Try.func95 rfl trivial ?_ rfl
  simp only [Try.ntmps95, List.size_toArray, List.length_cons, List.length_nil, Nat.reduceAdd, Nat.reduceSub, Array.replicate_succ, Array.replicate_zero, List.push_toArray, List.append_toArray, List.nil_append, List.cons_append]
  gi_wp2
  refine ⟨trivial, (callsIn_wide.2 KC.out).mono ?_⟩
  rintro e w1 ⟨rfl, rfl⟩
  gi_wp2
  refine ⟨trivial, (callsIn_wide.2 SC.out).mono ?_⟩
  rintro e w1 ⟨v, rfl, hr, hf, c1⟩
  obtain ⟨va, vc, rfl⟩ := hr.form
  have HR := Lib.hid hr
  have HF := Lib.hid hf
  have C1 := Lib.hid c1
  clear hr hf c1
  gi_wp2
  have hsl : Hid (((strKeys D).mergeSort leB).length = m) := by show _ = _; rw [List.length_mergeSort, HM.out]
  have hxl : Hid (xs.length = m) := by show _ = _; rw [← List.length_map (f := f), HX.out.1, hsl.out]
  have h01 := hJ [] W w1 none h0 (chg_grown C1.out) (fun r e => by cases e)
  have hz1 := C1.out.size
  gi_loopw [4, 14] (fun _ i wr => ∃ k : Nat, k ≤ m ∧ i = .int .i64 k ∧ J (xs.take k) wr ∧ KeepB B Tk w1 wr) (fun _ i _ => m - (intOf i).toNat)
  case atStart => exact ⟨0, Nat.zero_le _, rfl, h01, KeepB.refl _ _ _⟩
  case round =>
    obtain ⟨k, hk, rfl, hJs, hKp⟩ := hrel
    by_cases hlt : k < m
    · have kW : KeepB B Tk W wr := keepB_t (KeepB.same C1.out hBW) hKp
      have cBx : wr.cell? ⟨Bx, 0, none⟩ = some (.pointer (some ⟨b, 0, none⟩)) := by rw [World.cell?_of_block (w := W) (w' := wr) (kW.1 Bx k1.1 k1.2)]; exact hBx
      have cb : wr.cell? ⟨b, 0, none⟩ = some (.map (some mm)) := by rw [World.cell?_of_block (w := W) (w' := wr) (kW.1 b k2.1 k2.2)]; exact x0
      have hown : wr.ownsMap Try.prog 9 holdR mm nn D := by
        obtain ⟨es, clock, h1, r⟩ := HO.out
        exact ⟨es, clock, (kW.1 mm k3.1 k3.2).trans h1, r⟩
      obtain ⟨s, hs⟩ : ∃ s, ((strKeys D).mergeSort leB)[k]? = some s := ⟨_, List.getElem?_eq_getElem (by rw [hsl.out]; exact hlt)⟩
      obtain ⟨x, hx⟩ : ∃ x, xs[k]? = some x := ⟨_, List.getElem?_eq_getElem (by rw [hxl.out]; exact hlt)⟩
      have hlk := look_one wr mm nn D s (HKL.out s ((List.mergeSort_perm _ _).mem_iff.1 (List.mem_of_getElem? hs))) (f x) (HX.out.2 k s (f x) hs (by rw [List.getElem?_map, hx]; rfl)) hown
      obtain ⟨g, o, c', hva, hgB, hcell⟩ : ∃ g o c', (Value.slice va m vc) = .slice (some ⟨g, o, none⟩) m c' ∧ W.heap.size ≤ g ∧ w1.cell? ⟨g, o + k, none⟩ = some (.string ⟨s.toArray⟩) := by
        rcases HR.out.2 with ⟨_, h9⟩ | ⟨g, o, c', hv, _, _, _, h9⟩
        · omega
        · refine ⟨g, o, c', hv, HF.out g (by rw [hv]; rfl), h9 k _ ?_⟩
          rw [List.getElem?_map, hs]; rfl
      simp only [Value.slice.injEq] at hva
      obtain ⟨rfl, _, rfl⟩ := hva
      have cg : wr.cell? ⟨g, o + k, none⟩ = some (.string ⟨s.toArray⟩) := by
        obtain ⟨c9, t9, f9, h9⟩ := heap_of_cell hcell
        rw [World.cell?_of_block (w := w1) (w' := wr) ((hKp.2 g c9 t9 f9 (by omega) h9).trans h9.symm)]; exact hcell
      have hT : Hid (xs.take (k + 1) = xs.take k ++ [x]) := by show _ = _; rw [List.take_add_one, hx]; rfl
      obtain ⟨fn, tmps, assign, body, hy, hR⟩ := hY (xs.take k) x wr hJs (by rw [List.length_take, hxl.out]; omega)
      have HLK := Lib.hid hlk
      have HKP := Lib.hid hKp
      have hRR := Lib.hid hR
      clear hown hs hx hlk hKp kW hcell hR
      gi_wp2
      rw [HLK.out]
      gi_wp2
      refine hRR.out.mono ?_
      rintro e W3 (⟨rfl, hJ3, hk3⟩ | ⟨rfl, hJx3⟩)
      · gi_wp2
        exact ⟨⟨k + 1, by omega, rfl, by rw [hT.out]; exact hJ3, keepB_t HKP.out hk3⟩, by simp only [intOf]; omega⟩
      · gi_wp2
        refine bodyPost_ret (v := .tuple #[]) (results_none rfl _ _ _) rfl ?_
        exact ⟨⟨_, rfl⟩, .inr ⟨_, ⟨k + 1, by omega, rfl⟩, by rw [hT.out]; exact hJx3⟩⟩
    · obtain rfl : k = m := by omega
      gi_wp2
      go_end0
      rw [List.take_of_length_le (by rw [hxl.out]; exact Nat.le_refl _)] at hJs
      exact ⟨⟨_, rfl⟩, .inl ⟨_, rfl, hJs⟩⟩
theorem all1_stops {α : Type} (f : α → Hld) (xs : List α) (D : HD) (n : Nat) (hn : 1 ≤ n) (Bx b nn : Nat) (S Tk : Nat → Prop) (hxs : Holds D ((strKeys D).mergeSort leB) (xs.map f)) (hm2 : (strKeys D).length ≤ 1000000) (hsz : Maps.size D ≤ 1000000) (hkl : ∀ s ∈ strKeys D, s.length ≤ maxLen) (w : World)
    (hBx : w.cell? ⟨Bx, 0, none⟩ = some (.pointer (some ⟨b, 0, none⟩))) (ht : TabAt w S b D nn) (hS : ∀ k, S k → ¬ Tk k) (hTB : ¬ Tk Bx) :
    SeqStopsK (α := α) Fence.wide n Try.prog 95 #[.pointer (some ⟨Bx, 0, none⟩)] (fun x => #[mkH (f x)]) (KeepB w.heap.size Tk) (fun ys => ys = xs) (fun pre => ∃ k, k ≤ (strKeys D).length ∧ pre = xs.take k) (strKeys D).length w := by
  intro l J Jx W hW hJ hJx hY h0
  obtain ⟨m, T, hb, hown, hSb, hSm⟩ := ht
  have b1 := World.block_lt_of_cell? w _ hBx
  have b2 := (Array.getElem?_eq_some_iff.1 hb).1
  have b3 := hown.lt
  exact all1_in f xs D n hn l Bx b _ m nn T Tk hxs rfl hm2 hsz hkl J Jx w.heap.size W hW.size hJ hY (by rw [World.cell?_of_block (hW.block Bx b1)]; exact hBx) ((hW.block b b2).trans hb) (by obtain ⟨es, clock, h1, r⟩ := hown; exact ⟨es, clock, (hW.block m b3).trans h1, r⟩) ⟨b1, hTB⟩ ⟨b2, hS _ hSb⟩ ⟨b3, hS _ hSm⟩ h0
end Go.Proofs.Ytjhkhdockiocgaa
