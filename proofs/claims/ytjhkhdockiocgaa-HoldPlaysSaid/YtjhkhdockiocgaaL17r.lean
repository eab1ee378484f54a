/- HoldPlays: the loop's memory. -/
import Derived.Test.YtjhkhdockiocgaaL17q
import Derived.RangeFuncNested
namespace Go.Cat
@[irreducible] def Halted (p : Prop) : Prop := p
theorem halt_ {p : Prop} (h : Halted p) : p := by unfold Halted at h; exact h
theorem goes_on {p : Prop} (h : p) : Halted p := by unfold Halted; exact h
/-- The post without a panic. -/
def NoP (Q : Exit → Act → World → Prop) : Exit → Act → World → Prop
  | .panic _, _, _ => False
  | e, a, w => Q e a w
theorem nop {P : Program} {c : Code} {Q : Exit → Act → World → Prop} {a : Act} {w : World} (h : c.wp P (NoP Q) a w) : c.wp P Q a w :=
  Code.wp_mono (fun e a w q => by cases e <;> first | exact q | exact q.elim) h
theorem nop_normal {Q : Exit → Act → World → Prop} {a : Act} {w : World} (h : Q .normal a w) : NoP Q .normal a w := h
theorem exec_sliceP {P : Program} {o : Oper} {a : Act} {w : World} (t : TypeId) (x : Operand) (lo hi mx : Option Operand) (ho : o.op = .slice t x lo hi mx) (v : Value) (h : (Instr.sliceAt t (a.eval x) (lo.map a.eval) (hi.map a.eval) (mx.map a.eval)).run P w = .ok v w) : (execOp a.eval o).run P w = .ok (.value v) w := by
  unfold execOp
  simp [ho, h, Result.andThen]
section
variable {P : Program} {T : Nat → Prop} {fuel : Nat} {listed : Array Bool} {a : Act} {w : World} {Q : Exit → Act → World → Prop}
theorem wpT.three {l : List Oper} (i j k : Nat) {oi oj ok : Oper} {ri rj rk : List Oper} (hi : l.drop i = oi :: ri) (hj : l.drop j = oj :: rj) (hk : l.drop k = ok :: rk) (hr : Region.ready .any l.toArray listed = [i, j, k])
    (hwi : Region.wanted oi (yielded l.toArray a.tmps) = true) (hwj : Region.wanted oj (yielded l.toArray a.tmps) = true) (hwk : Region.wanted ok (yielded l.toArray a.tmps) = true)
    (h1 : ∀ K : Act → World → Prop, (∀ a' w', Chg T w w' → wpT P l.toArray Q T fuel (listed.setIfInBounds i true) a' w' → K a' w') → Oper.wp P oi a w K Q)
    (h2 : ∀ K : Act → World → Prop, (∀ a' w', Chg T w w' → wpT P l.toArray Q T fuel (listed.setIfInBounds j true) a' w' → K a' w') → Oper.wp P oj a w K Q)
    (h3 : ∀ K : Act → World → Prop, (∀ a' w', Chg T w w' → wpT P l.toArray Q T fuel (listed.setIfInBounds k true) a' w' → K a' w') → Oper.wp P ok a w K Q) : wpT P l.toArray Q T (fuel + 1) listed a w := by
  refine wpAnyH_all hr (by simp) fun x hx => ?_
  rcases List.mem_cons.1 hx with rfl | hx
  · unfold wpOp
    simp only [drop_at hi, hwi, if_true]
    exact .inl (h1 _ fun a' w' hc h' => ⟨hc, wpAnyH_mono (fun w'' h'' => hc.trans h'') _ _ _ _ h'⟩)
  rcases List.mem_cons.1 hx with rfl | hx
  · unfold wpOp
    simp only [drop_at hj, hwj, if_true]
    exact .inl (h2 _ fun a' w' hc h' => ⟨hc, wpAnyH_mono (fun w'' h'' => hc.trans h'') _ _ _ _ h'⟩)
  · obtain rfl : x = k := by simpa using hx
    unfold wpOp
    simp only [drop_at hk, hwk, if_true]
    exact .inl (h3 _ fun a' w' hc h' => ⟨hc, wpAnyH_mono (fun w'' h'' => hc.trans h'') _ _ _ _ h'⟩)
end
theorem keepsFrom_chg {S : Nat → Prop} {B : Nat} {w w' : World} (c : Chg S w w') (h : ∀ q, S q → q < B) : KeepsFrom B w w' := ⟨c.size, fun k o hB hk _ => c.heap hk (fun hs => by have := h k hs; omega)⟩
end Go.Cat
namespace Go.Proofs.Ytjhkhdockiocgaa
open Go.RowKit Go.Cat Go.Maps
theorem slice_hiP (w : World) (a : Option Addr) (n c hi : Nat) (h : hi ≤ c) : (Instr.sliceAt 89 (.slice a n c) none (some (.int .i64 hi)) none).run Try.prog w = .ok (.slice a hi c) w := by
  have h4 : (hi : Int) ≤ c := by omega
  simp [go_sem, Instr.sliceAt, Instr.slice, Instr.sliceBounds, h4]
theorem slice_loP4 (w : World) (a : Option Addr) (n c lo : Nat) (h : lo ≤ n) : (Instr.sliceAt 89 (.slice a n c) (some (.int .i64 lo)) none none).run Try.prog w = .ok (.slice (if c = lo then a else a.map (·.add (lo * 4))) (n - lo) (c - lo)) w := by
  have h4 : (lo : Int) ≤ n := by omega
  simp [go_sem, Instr.sliceAt, Instr.slice, Instr.sliceBounds, h4]
theorem load_sliceP (w : World) (p : Addr) (a : Option Addr) (n c : Nat) (h : w.cell? p = some (.slice a n c)) : (Instr.loadAt 89 (.pointer (some p))).run Try.prog w = .ok (.slice a n c) w := run_loadAt_one w _ (by kernel_rfl) p _ h

/-- The memory: boxes, the row of holds, the table, the marks. -/
structure HM (w wr : World) (q7 q8 q10 b mb : Nat) (lo hi : Int) (D : HD) (nn : Nat) (M : List Hld) (mv : Value) (DS : List Nat) : Prop where
  chg : Chg (fun _ => False) w wr
  c7 : wr.heap[q7]? = some (.cells #[.int .i64 lo, .int .i64 hi] 24 (0, 0))
  c8 : wr.heap[q8]? = some (.cells #[.bool false] 4 (0, 0))
  c10 : wr.heap[q10]? = some (.cells #[mv] 89 (0, 0))
  own : Owns wr 4 mv M.length (M.flatMap Hld.cells)
  tab : TabAt wr (fun k => k = b ∨ k = mb) b D nn
  old : ∀ q, q ∈ [q7, q8, q10, b, mb] → w.heap.size ≤ q
  nd : [q7, q8, q10, b, mb].Nodup
  mvb : ∀ q, mv.ownBlock = some q → w.heap.size ≤ q ∧ q ∉ [q7, q8, q10, b, mb] ∧ q ∉ DS
  dsb : ∀ q ∈ DS, w.heap.size ≤ q ∧ q ∉ [q7, q8, q10, b, mb]
  dsn : DS.Nodup
  dsd : ∀ q ∈ DS, wr.heap[q]? = some (.deferred (some []))
variable {w wr w' : World} {q7 q8 q10 b mb : Nat} {lo hi : Int} {D : HD} {nn : Nat} {M : List Hld} {mv : Value} {DS : List Nat}
theorem HM.same (h : HM w wr q7 q8 q10 b mb lo hi D nn M mv DS) (c : Chg (fun _ => False) wr w') : HM w w' q7 q8 q10 b mb lo hi D nn M mv DS :=
  ⟨h.chg.trans c, c.heap h.c7 (fun h => h), c.heap h.c8 (fun h => h), c.heap h.c10 (fun h => h), h.own.kept c (fun _ _ h => h), h.tab.kept c (fun _ _ h => h), h.old, h.nd, h.mvb, h.dsb, h.dsn, fun q hq => c.heap (h.dsd q hq) (fun h => h)⟩
theorem HM.lt (h : HM w wr q7 q8 q10 b mb lo hi D nn M mv DS) : q7 < wr.heap.size ∧ q8 < wr.heap.size ∧ q10 < wr.heap.size ∧ b < wr.heap.size ∧ mb < wr.heap.size := by
  have hb : b < wr.heap.size := by obtain ⟨_, _, h1, _⟩ := h.tab; exact (Array.getElem?_eq_some_iff.1 h1).1
  have hm : mb < wr.heap.size := by
    obtain ⟨m, T, h1, h2, h3, h4⟩ := h.tab
    have hne := tab_ne h1 h2
    rcases h4 with h4 | h4
    · exact absurd h4.symm hne
    · rw [← h4]; exact h2.lt
  exact ⟨(Array.getElem?_eq_some_iff.1 h.c7).1, (Array.getElem?_eq_some_iff.1 h.c8).1, (Array.getElem?_eq_some_iff.1 h.c10).1, hb, hm⟩
/-- The row turned, and its box. -/
theorem HM.row (h : HM w wr q7 q8 q10 b mb lo hi D nn M mv DS) {w6 : World} {v' : Value} {M' : List Hld} (c : Chg (fun k => mv.ownBlock = some k) wr w6) (own : Owns w6 4 v' M'.length (M'.flatMap Hld.cells)) (hin : ∀ k, v'.ownBlock = some k → mv.ownBlock = some k ∨ wr.heap.size ≤ k) :
    HM w (w6.setCell ⟨q10, 0, none⟩ v') q7 q8 q10 b mb lo hi D nn M' v' DS := by
  have hl := h.lt
  have hmv : ∀ q, q ∈ [q7, q8, q10, b, mb] → ¬ mv.ownBlock = some q := fun q hq e => (h.mvb q e).2.1 hq
  have h10 := c.heap h.c10 (hmv q10 (by simp))
  have cS : Chg (fun k => k = q10) w6 (w6.setCell ⟨q10, 0, none⟩ v') := (Chg.refl (fun k => k = q10) w6).setCell (p := ⟨q10, 0, none⟩) (fun _ => rfl) v'
  obtain ⟨n1, n2⟩ := List.nodup_cons.1 h.nd
  obtain ⟨n3, n4⟩ := List.nodup_cons.1 n2
  obtain ⟨n5, n6⟩ := List.nodup_cons.1 n4
  have hz := c.size
  have hold : ∀ k, v'.ownBlock = some k → k ∉ [q7, q8, q10, b, mb] ∧ k ∉ DS ∧ w.heap.size ≤ k := fun k hk => by
    rcases hin k hk with h1 | h1
    · exact ⟨(h.mvb k h1).2.1, (h.mvb k h1).2.2, (h.mvb k h1).1⟩
    · refine ⟨fun e => ?_, fun e => ?_, by have := h.chg.size; omega⟩
      · simp at e; omega
      · have := (Array.getElem?_eq_some_iff.1 (h.dsd k e)).1; omega
  refine ⟨(h.chg.new c (fun k hk => (h.mvb k hk).1)).new cS (fun k hk => by have e : k = q10 := hk; subst e; exact h.old k (by simp)), cS.heap (c.heap h.c7 (hmv q7 (by simp))) (fun e => n1 (by simp [e])), cS.heap (c.heap h.c8 (hmv q8 (by simp))) (fun e => n3 (by simp [e])),
    Cat.heap_setCell_same h10 0 v', own.kept cS (fun k hk e => (hold k hk).1 (by have e : k = q10 := e; simp [e])), (h.tab.kept c (fun k hk => hmv k (by rcases hk with hk | hk <;> simp [hk]))).kept cS (fun k hk e => n5 (by have e : k = q10 := e; rcases hk with hk | hk <;> simp [← e, hk])), h.old, h.nd,
    fun q hq => ⟨(hold q hq).2.2, (hold q hq).1, (hold q hq).2.1⟩, h.dsb, h.dsn, fun q hq => cS.heap (c.heap (h.dsd q hq) (fun e => (h.mvb q e).2.2 hq)) (fun e => (h.dsb q hq).2 (by have e : q = q10 := e; simp [e]))⟩
/-- The table turned. -/
theorem HM.tabbed (h : HM w wr q7 q8 q10 b mb lo hi D nn M mv DS) {D' : HD} {nn' : Nat} (t : TabAt w' (fun k => k = b ∨ k = mb) b D' nn') (c : Chg (fun k => k = b ∨ k = mb) wr w') : HM w w' q7 q8 q10 b mb lo hi D' nn' M mv DS := by
  obtain ⟨n1, n2⟩ := List.nodup_cons.1 h.nd
  obtain ⟨n3, n4⟩ := List.nodup_cons.1 n2
  obtain ⟨n5, n6⟩ := List.nodup_cons.1 n4
  refine ⟨h.chg.new c (fun k hk => h.old k (by rcases hk with hk | hk <;> simp [hk])), c.heap h.c7 (fun e => n1 (by rcases e with e | e <;> simp [e])), c.heap h.c8 (fun e => n3 (by rcases e with e | e <;> simp [e])), c.heap h.c10 (fun e => n5 (by rcases e with e | e <;> simp [e])),
    h.own.kept c (fun k hk e => (h.mvb k hk).2.1 (by rcases e with e | e <;> simp [e])), t, h.old, h.nd, h.mvb, h.dsb, h.dsn, fun q hq => c.heap (h.dsd q hq) (fun e => (h.dsb q hq).2 (by rcases e with e | e <;> simp [e]))⟩
/-- A mark more. -/
theorem HM.mark (h : HM w wr q7 q8 q10 b mb lo hi D nn M mv DS) {B X : Nat} (hB : ∀ q ∈ DS, q < B) (h5 : q7 < B ∧ q8 < B ∧ q10 < B ∧ b < B ∧ mb < B) (hv : ∀ q, mv.ownBlock = some q → q < B) (hX : B ≤ X) (hd : wr.heap[X]? = some (.deferred (some []))) (hw : w.heap.size ≤ B) : HM w wr q7 q8 q10 b mb lo hi D nn M mv (X :: DS) := by
  have hX5 : X ∉ [q7, q8, q10, b, mb] := fun e => by simp at e; omega
  refine ⟨h.chg, h.c7, h.c8, h.c10, h.own, h.tab, h.old, h.nd, fun q hq => ⟨(h.mvb q hq).1, (h.mvb q hq).2.1, fun e => ?_⟩, fun q hq => ?_, List.nodup_cons.2 ⟨fun e => by have := hB X e; omega, h.dsn⟩, fun q hq => ?_⟩
  · rcases List.mem_cons.1 e with e | e
    · have := hv q hq; omega
    · exact (h.mvb q hq).2.2 e
  · rcases List.mem_cons.1 hq with rfl | hq
    · exact ⟨by omega, hX5⟩
    · exact h.dsb q hq
  · rcases List.mem_cons.1 hq with rfl | hq
    · exact hd
    · exact h.dsd q hq
def markD (D : Nat) : Deferred := { target := .collected D, args := #[] }
theorem HM.leave {F : Fence} {n : Nat} {P : Program} {fn : Func} {tmps : Array Value} (h : HM w wr q7 q8 q10 b mb lo hi D nn M mv DS) (c : Chg (fun k => k = q8) wr w') (h8 : w'.heap[q8]? = some (.cells #[.bool true] 4 (0, 0)))
    (hr : ∀ W : World, W.cell? ⟨q8, 0, none⟩ = some (.bool true) → (results fn tmps).run P W = .ok (.bool true) W) : LeavesInM F n P fn tmps (fun e W' => e = .returned (.bool true) ∧ Chg (fun _ => False) w W') (DS.map markD) .returning w' := by
  refine leaves_marks DS w' h.dsn (fun q hq => c.heap (h.dsd q hq) (fun e => (h.dsb q hq).2 (by have e : q = q8 := e; simp [e]))) (fun W' hc => ⟨.bool true, hr W' ?_, rfl, ((h.chg.new c (fun k hk => by have e : k = q8 := hk; subst e; exact h.old k (by simp))).new hc (fun k hk => (h.dsb k hk).1))⟩)
  rw [cell_of_heap (hc.heap h8 (fun e => (h.dsb q8 e).2 (by simp)))]; rfl
theorem act_cells {w : World} {a : Option Addr} {n c : Nat} {L : List Act17} (h : Reads w 5 (.slice a n c) n (L.flatMap Act17.cells)) (hn : n = L.length) (k : Nat) (x : Act17) (hk : L[k]? = some x) :
    ∃ g o, a = some ⟨g, o, none⟩ ∧ w.cell? ⟨g, o + k * 5, none⟩ = some (.int .i64 x.kind) ∧ w.cell? ⟨g, o + k * 5 + 1, none⟩ = some (.string ⟨x.h.name.toArray⟩) ∧ w.cell? ⟨g, o + k * 5 + 2, none⟩ = some (.string ⟨x.h.series.toArray⟩) ∧ w.cell? ⟨g, o + k * 5 + 3, none⟩ = some (.int .i64 x.h.lo) ∧ w.cell? ⟨g, o + k * 5 + 4, none⟩ = some (.int .i64 x.h.hi) := by
  have hkl := (List.getElem?_eq_some_iff.1 hk).1
  rcases h.2 with ⟨_, h0⟩ | ⟨g, o, c', hv, _, _, _, hc⟩
  · omega
  · simp only [Value.slice.injEq] at hv
    have at_ : ∀ i u, i < 5 → x.cells[i]? = some u → w.cell? ⟨g, o + (k * 5 + i), none⟩ = some u := fun i u hi hu => hc _ u (by rw [rows_at L (s := 5) (f := Act17.cells) (fun _ _ => rfl) k i x hk hi]; exact hu)
    refine ⟨g, o, hv.1, ?_, ?_, ?_, ?_, ?_⟩
    · exact at_ 0 _ (by omega) rfl
    · rw [Nat.add_assoc]; exact at_ 1 _ (by omega) rfl
    · rw [Nat.add_assoc]; exact at_ 2 _ (by omega) rfl
    · rw [Nat.add_assoc]; exact at_ 3 _ (by omega) rfl
    · rw [Nat.add_assoc]; exact at_ 4 _ (by omega) rfl
def badN (nm sr : List UInt8) : Bool := !(nameRight nm) || (!sr.isEmpty && !(nameRight sr))
theorem badN_iff {nm sr : List UInt8} : badN nm sr = true ↔ (nameRight nm = false ∨ (sr ≠ [] ∧ nameRight sr = false)) := by
  unfold badN
  cases nameRight nm <;> cases nameRight sr <;> cases sr <;> simp
def isAdd (kind : Int) : Bool := decide (kind = 0 ∨ kind = 1 ∨ kind = 2)
theorem info_holdP : (Try.prog.info? 28).map (fun i => (i.zero, i.size, i.bytes)) = some (some (.agg #[.string ⟨#[]⟩, .string ⟨#[]⟩, .int .i64 0, .int .i64 0]), 4, 48) := by kernel_rfl
/-- What has been seen of the holds: one covers the tick, one meets the range, there is one of the series. -/
def Bs (M : List Hld) (s : List UInt8) (x lo hi : Int) (j : Nat) (c m a : Bool) : Prop :=
  (c = true ↔ ∃ h ∈ M.take j, h.of s ∧ h.lo ≤ x ∧ x < h.hi) ∧ (m = true ↔ ∃ h ∈ M.take j, h.of s ∧ max h.lo lo < h.hi ∧ max h.lo lo < hi) ∧ (a = true ↔ ∃ h ∈ M.take j, h.of s)
theorem Bs.zero (M : List Hld) (s : List UInt8) (x lo hi : Int) : Bs M s x lo hi 0 false false false := ⟨by simp, by simp, by simp⟩
theorem mem_take_succ {M : List Hld} {j : Nat} {y : Hld} (hy : M[j]? = some y) (p : Hld → Prop) : (∃ h ∈ M.take (j + 1), p h) ↔ ((∃ h ∈ M.take j, p h) ∨ p y) := by
  rw [List.take_add_one, hy]
  constructor
  · rintro ⟨h, hm, hp⟩
    rcases List.mem_append.1 hm with hm | hm
    · exact .inl ⟨h, hm, hp⟩
    · have hm : h = y := by simpa using hm
      subst hm; exact .inr hp
  · rintro (⟨h, hm, hp⟩ | hp)
    · exact ⟨h, List.mem_append.2 (.inl hm), hp⟩
    · exact ⟨y, by simp, hp⟩
theorem Bs.step {M : List Hld} {s : List UInt8} {x lo hi : Int} {j : Nat} {c m a : Bool} (h : Bs M s x lo hi j c m a) {y : Hld} (hy : M[j]? = some y) (ho : y.of s) {c' m' : Bool} (hc : c' = true ↔ (c = true ∨ (y.lo ≤ x ∧ x < y.hi))) (hm : m' = true ↔ (m = true ∨ (max y.lo lo < y.hi ∧ max y.lo lo < hi))) : Bs M s x lo hi (j + 1) c' m' true := by
  obtain ⟨h1, h2, h3⟩ := h
  refine ⟨?_, ?_, ?_⟩
  · rw [hc, h1, mem_take_succ hy]; simp [ho]
  · rw [hm, h2, mem_take_succ hy]; simp [ho]
  · rw [mem_take_succ hy]; simp [ho]
theorem Bs.skip {M : List Hld} {s : List UInt8} {x lo hi : Int} {j : Nat} {c m a : Bool} (h : Bs M s x lo hi j c m a) {y : Hld} (hy : M[j]? = some y) (ho : ¬ y.of s) : Bs M s x lo hi (j + 1) c m a := by
  obtain ⟨h1, h2, h3⟩ := h
  refine ⟨?_, ?_, ?_⟩
  · rw [h1, mem_take_succ hy]; simp [ho]
  · rw [h2, mem_take_succ hy]; simp [ho]
  · rw [h3, mem_take_succ hy]; simp [ho]
def skipB (sr s : List UInt8) : Bool := !sr.isEmpty && !(sr == s)
theorem skipB_iff (h : Hld) (s : List UInt8) : skipB h.series s = true ↔ ¬ h.of s := by
  unfold skipB Hld.of
  cases hs : h.series with
  | nil => simp
  | cons a l => simp
theorem TM.seen {D : HD} {M : List Hld} (t : TM D M) {s : List UInt8} {x lo hi : Int} {j : Nat} {c m a : Bool} (h : Bs M s x lo hi j c m a) (hj : j = M.length) :
    (c = true ↔ ∃ k h, Has D k h ∧ (h.of s ∧ h.lo ≤ x ∧ x < h.hi)) ∧ (m = true ↔ ∃ k h, Has D k h ∧ (h.of s ∧ max h.lo lo < min h.hi hi)) ∧ (a = true ↔ ∃ k h, Has D k h ∧ h.of s) := by
  subst hj
  obtain ⟨h1, h2, h3⟩ := h
  rw [List.take_length] at h1 h2 h3
  have key : ∀ p : Hld → Prop, (∃ h ∈ M, p h) ↔ ∃ k h, Has D k h ∧ p h := fun p => ⟨fun ⟨h, hm, hp⟩ => ⟨_, h, t.at_ h hm, hp⟩, fun ⟨k, h, hh, hp⟩ => ⟨h, (t.of_ k h hh).1, hp⟩⟩
  refine ⟨by rw [h1, key], ?_, by rw [h3, key]⟩
  rw [h2, key]
  constructor
  · rintro ⟨k, h, hh, h4, h5, h6⟩; exact ⟨k, h, hh, h4, by omega⟩
  · rintro ⟨k, h, hh, h4, h5⟩; exact ⟨k, h, hh, h4, by omega, by omega⟩
/-- The last one's name. -/
def lastN (l : List Hld) : List UInt8 := ((l.getLast?).map Hld.name).getD []
theorem lastN_snoc (l : List Hld) (x : Hld) : lastN (l ++ [x]) = x.name := by simp [lastN]
theorem lastN_bad {l : List Hld} {x : Hld} (hx : nameRight x.name = true) (h : x.name ≤ lastN l) : ¬ (l ++ [x]).Pairwise (fun (a b : Hld) => ¬ b.name ≤ a.name) := fun hp => by
  cases hl : l.getLast? with
  | none =>
    have : lastN l = [] := by simp [lastN, hl]
    rw [this] at h
    have h2 : x.name = [] := List.le_antisymm h (List.nil_le _)
    unfold nameRight at hx
    exact (of_decide_eq_true hx).1 h2
  | some y =>
    have : lastN l = y.name := by simp [lastN, hl]
    rw [this] at h
    exact (List.pairwise_append.1 hp).2.2 y (List.mem_of_getLast? hl) x (by simp) h
end Go.Proofs.Ytjhkhdockiocgaa
