/- Worlds between the rounds of a range over a function. No program is named. -/
import Derived.Test.YtmnnahkaenikkaaT
import Derived.RangeFuncNested
import Derived.RangeFuncBound
import Derived.RangeFuncCalls
import Derived.RangeFuncLeaves
import Derived.RangeFuncFrom
import Derived.Shelf.Abstract
import Derived.Shelf.RegionOpen
import Derived.OwnWalkIn
import Derived.TacticsInMore
import Derived.LoopNIn
import Derived.LoopIn
import Derived.Sort.QuietIn
namespace Go.Cat
open Go.RowKit
/-- What lay below B and isn't of T is as it was; cells from B on, too. -/
def KeepB (B : Nat) (T : Nat → Prop) (W W' : World) : Prop := (∀ k, k < B → ¬ T k → W'.heap[k]? = W.heap[k]?) ∧ ∀ k c t f, B ≤ k → W.heap[k]? = some (.cells c t f) → W'.heap[k]? = some (.cells c t f)
theorem KeepB.refl (B : Nat) (T : Nat → Prop) (W : World) : KeepB B T W W := ⟨fun _ _ _ => rfl, fun _ _ _ _ _ h => h⟩
theorem KeepB.same {B : Nat} {T : Nat → Prop} {W W' : World} (c : Chg (fun _ => False) W W') (hB : B ≤ W.heap.size) : KeepB B T W W' := ⟨fun k hk _ => c.block k (by omega) (fun h => h), fun _ _ _ _ _ h => c.heap h (fun h => h)⟩
theorem keepB_t {B : Nat} {T : Nat → Prop} {A W C : World} (h : KeepB B T A W) (k : KeepB B T W C) : KeepB B T A C :=
  ⟨fun i hi ht => (k.1 i hi ht).trans (h.1 i hi ht), fun i c t f hi hc => k.2 i c t f hi (h.2 i c t f hi hc)⟩
theorem keepB_b {w : World} {T : Nat → Prop} (W : World) (l : Nat) (o o' : Obj) (hl : w.heap.size ≤ l) (hol : W.heap[l]? = some o) (hc : o.isCells = false) (_ : o.isWalk = false) : KeepB w.heap.size T W (W.putObj l o') :=
  ⟨fun k hk _ => World.putObj_heap_other (by omega), fun k c t f _ hk => by
    rw [World.putObj_heap_other (fun e => ?_)]
    · exact hk
    · rw [e, hol] at hk; cases hk; cases hc⟩
/-- The same, and no block is gone. -/
def KeepS (B : Nat) (T : Nat → Prop) (W W' : World) : Prop := KeepB B T W W' ∧ W.heap.size ≤ W'.heap.size
theorem KeepS.refl (B : Nat) (T : Nat → Prop) (W : World) : KeepS B T W W := ⟨KeepB.refl _ _ _, Nat.le_refl _⟩
theorem KeepS.same {B : Nat} {T : Nat → Prop} {W W' : World} (c : Chg (fun _ => False) W W') (hB : B ≤ W.heap.size) : KeepS B T W W' := ⟨KeepB.same c hB, c.size⟩
theorem KeepS.chg {B : Nat} {T : Nat → Prop} {W W' : World} (c : Chg T W W') (hB : B ≤ W.heap.size) (hT : ∀ k, T k → k < B) : KeepS B T W W' := ⟨⟨fun k hk ht => c.block k (by omega) ht, fun k _ _ _ hk h => c.heap h (fun ht => by have := hT k ht; omega)⟩, c.size⟩
theorem keepS_t {B : Nat} {T : Nat → Prop} {A W C : World} (h : KeepS B T A W) (k : KeepS B T W C) : KeepS B T A C := ⟨keepB_t h.1 k.1, Nat.le_trans h.2 k.2⟩
theorem keepS_b {w : World} {T : Nat → Prop} (W : World) (l : Nat) (o o' : Obj) (hl : w.heap.size ≤ l) (hol : W.heap[l]? = some o) (hc : o.isCells = false) (hw : o.isWalk = false) : KeepS w.heap.size T W (W.putObj l o') := ⟨keepB_b W l o o' hl hol hc hw, by simp⟩
theorem heap_of_cell {w : World} {g i : Nat} {u : Value} (h : w.cell? ⟨g, i, none⟩ = some u) : ∃ c t f, w.heap[g]? = some (.cells c t f) := by
  unfold World.cell? at h
  cases hg : w.heap[g]? with
  | none => simp [hg] at h
  | some o =>
    cases o with
    | cells c t f => exact ⟨c, t, f, rfl⟩
    | _ => simp [hg] at h
theorem chg_grown {w w' : World} (c : Chg (fun _ => False) w w') : w.grownBy w' none := ⟨c.os, c.tape, c.output, c.size, fun k hk _ => c.block k hk (fun h => h)⟩
theorem leaves_marks {F : Fence} {n : Nat} {P : Program} {fn : Func} {tmps : Array Value} {R : Ending → World → Prop} : ∀ (DS : List Nat) (W : World), DS.Nodup → (∀ D ∈ DS, W.heap[D]? = some (.deferred (some []))) →
    (∀ W', Chg (fun k => k ∈ DS) W W' → ∃ v, (results fn tmps).run P W' = .ok v W' ∧ R (.returned v) W') → LeavesInM F n P fn tmps R (DS.map fun D => { target := .collected D, args := #[] }) .returning W := by
  intro DS
  induction DS with
  | nil => intro W _ _ h; exact h W (Chg.refl _ W)
  | cons D DS ih =>
    intro W hn hd h
    obtain ⟨h1, h2⟩ := List.nodup_cons.1 hn
    have cP : Chg (fun q => q = D) W (W.putObj D (.deferred none)) := ⟨rfl, rfl, rfl, by simp, fun q _ hq => World.putObj_heap_other hq⟩
    refine ⟨by simp, .inl ⟨D, _, rfl, run_takeDeferred (hd D (by simp)), ih _ h2 (fun q hq => ?_) (fun W' hc => h W' ?_)⟩⟩
    · rw [World.putObj_heap_other (fun e => h1 (by rw [← e]; exact hq))]; exact hd q (by simp [hq])
    · exact (cP.mono (fun k _ hk => by have e : k = D := hk; subst e; simp)).trans (hc.mono (fun k _ hk => by simp [hk]))
theorem results_cells2 {fn : Func} {p u : Tmp} {t1 t2 : TypeId} (h : fn.results = #[.cell p t1, .cell u t2]) (tmps : Array Value) (P : Program) (w : World) (g1 g2 : Nat) (v1 v2 : Value)
    (hp : tmps.getD p undef = .pointer (some ⟨g1, 0, none⟩)) (hu : tmps.getD u undef = .pointer (some ⟨g2, 0, none⟩)) (o1 : oneT P t1 = true) (o2 : oneT P t2 = true) (h1 : w.cell? ⟨g1, 0, none⟩ = some v1) (h2 : w.cell? ⟨g2, 0, none⟩ = some v2) :
    (results fn tmps).run P w = .ok (.tuple #[v1, v2]) w := by
  have l1 := run_loadAt_one w t1 o1 ⟨g1, 0, none⟩ v1 h1
  have l2 := run_loadAt_one w t2 o2 ⟨g2, 0, none⟩ v2 h2
  simp only [Instr.loadAt, Instr.sureAddr, Sem.run_bind, Sem.run_pure, Result.andThen_ok] at l1 l2
  have hp' : tmps[p]?.getD undef = .pointer (some ⟨g1, 0, none⟩) := by simpa using hp
  have hu' : tmps[u]?.getD undef = .pointer (some ⟨g2, 0, none⟩) := by simpa using hu
  simp [results, h, hp', hu', asAddr, l1, l2, Sem.run_bind]
/-- Only what is no cells may turn. -/
def NoCells (w : World) (S : Nat → Prop) : Prop := ∀ r, S r → ∃ o : Obj, w.heap[r]? = some o ∧ o.isCells = false
theorem NoCells.not {w : World} {S : Nat → Prop} (h : NoCells w S) {p : Addr} {v : Value} (hc : w.cell? p = some v) : ¬ S p.block := fun hs => by
  obtain ⟨o, h1, h2⟩ := h _ hs
  obtain ⟨o', h3, h4⟩ := cells_of_cell hc
  rw [h1] at h3; cases h3; rw [h2] at h4; cases h4
theorem NoCells.notB {w : World} {S : Nat → Prop} (h : NoCells w S) {b : Nat} {c : Array Value} {T : TypeId} {f : Nat × Nat} (hc : w.heap[b]? = some (.cells c T f)) : ¬ S b := fun hs => by
  obtain ⟨o, h1, h2⟩ := h _ hs
  rw [hc] at h1; cases h1; simp [Obj.isCells] at h2
theorem Reads.other {w w' : World} {size : Nat} {v : Value} {n : Nat} {xs : List Value} (h : Reads w size v n xs) {S : Nat → Prop} (c : Chg S w w') (hS : NoCells w S) : Reads w' size v n xs := by
  refine ⟨h.1, ?_⟩
  rcases h.2 with hn | ⟨g, o, cap, rfl, h1, h2, h3, h4⟩
  · exact .inl hn
  · exact .inr ⟨g, o, cap, rfl, h1, h2, Nat.lt_of_lt_of_le h3 c.size, fun j u hj => c.cell (h4 j u hj) (hS.not (h4 j u hj))⟩
theorem Owns.other {w w' : World} {size : Nat} {v : Value} {n : Nat} {xs : List Value} (h : Owns w size v n xs) {S : Nat → Prop} (c : Chg S w w') (hS : NoCells w S) : Owns w' size v n xs := by
  refine ⟨h.1, ?_⟩
  rcases h.2 with hn | ⟨g, o, cap, rfl, h1, h2, h3, h4, h5⟩
  · exact .inl hn
  · refine .inr ⟨g, o, cap, rfl, h1, h2, Nat.lt_of_lt_of_le h3 c.size, fun j u hj => c.cell (h4 j u hj) (hS.not (h4 j u hj)), fun i hi => ?_⟩
    obtain ⟨k1, k2⟩ := h5 i hi
    obtain ⟨u, hu⟩ := Option.isSome_iff_exists.1 k1
    have hb := c.block g h3 (hS.not hu)
    rw [World.cell?_of_block (w := w) (w' := w') hb, World.frozen?_of_block (w := w) (w' := w') hb]
    exact ⟨k1, k2⟩
theorem RB.other {w w' : World} {v : Value} {l : List UInt8} (h : RB w v l) {S : Nat → Prop} (c : Chg S w w') (hS : NoCells w S) : RB w' v l := Reads.other h c hS

theorem NoCells.of_row {W : World} {row : Option Nat} {B : Nat} (hr : ∀ r, row = some r → B ≤ r ∧ ∃ o : Obj, W.heap[r]? = some o ∧ o.isCells = false) : NoCells W (fun k => row = some k) := fun r e => (hr r e).2

end Go.Cat
