/- Contracts of package hold: the table as a map, New, Add. -/
import Derived.Test.YtmnnahkaenikkaaHold1
import Derived.Maps.RangeWalk
import Derived.Maps.OwnSet
import Derived.Deep.CutRange
namespace Go.Proofs.Ytmnnahkaenikkaa
open Go.RowKit Go.Cat

abbrev HD := DataW Unit
def encH (h : Hld) : HD := .agg [.lit (.string h.name), .lit (.string h.series), .lit (.int .i64 h.lo), .lit (.int .i64 h.hi)]
theorem encH_inj {h h' : Hld} (e : encH h = encH h') : h = h' := by
  obtain ⟨a, b, c, d⟩ := h
  obtain ⟨a', b', c', d'⟩ := h'
  simp [encH] at e
  obtain ⟨rfl, rfl, rfl, rfl⟩ := e
  rfl
def holdR (v : Value) : Option (HD × List MemPlace) :=
  match v with
  | .agg ⟨[.string n, .string s, .int .i64 a, .int .i64 b]⟩ => some (encH ⟨n.data.toList, s.data.toList, a, b⟩, [])
  | _ => none
theorem holdR_mk (h : Hld) : holdR (.agg h.cells.toArray) = some (encH h, []) := by
  obtain ⟨a, b, c, d⟩ := h
  simp [holdR, Hld.cells]
theorem holdR_inv {v : Value} {y : HD × List MemPlace} (h : holdR v = some y) : ∃ x : Hld, v = .agg x.cells.toArray ∧ y = (encH x, []) := by
  unfold holdR at h
  split at h
  · rename_i n s a b
    cases h
    exact ⟨⟨n.data.toList, s.data.toList, a, b⟩, by simp [Hld.cells], rfl⟩
  · cases h
/-- The table has this hold at this key. -/
def Has (D : HD) (k : Lit) (h : Hld) : Prop := ∀ zd, D.atKey k zd = encH h
theorem Has.uni {D : HD} {k : Lit} {h h' : Hld} (a : Has D k h) (b : Has D k h') : h = h' := encH_inj ((a (.map [])).symm.trans (b (.map [])))
theorem Has.has {D : HD} {k : Lit} {h : Hld} (a : Has D k h) : Maps.has D k = true := Maps.has_true_of_atKey a

theorem owns_kept {w w' : World} {S : Nat → Prop} {k : TypeId} {R : Value → Option (HD × List MemPlace)} {b n : Nat} {D : HD} (h : w.ownsMap Try.prog k R b n D) (c : Chg S w w') (hs : ¬ S b) : w'.ownsMap Try.prog k R b n D := by
  obtain ⟨es, clock, hb, r⟩ := h
  exact ⟨es, clock, c.heap hb hs, r⟩
/-- A struct of one field, a map of holds by names. -/
def TabAt (w : World) (S : Nat → Prop) (b : Nat) (D : HD) (n : Nat) : Prop :=
  ∃ m T, w.heap[b]? = some (.cells #[.map (some m)] T (0, 0)) ∧ w.ownsMap Try.prog 9 holdR m n D ∧ S b ∧ S m
theorem TabAt.kept {w w' : World} {S T : Nat → Prop} {b n : Nat} {D : HD} (h : TabAt w S b D n) (c : Chg T w w') (hs : ∀ k, S k → ¬ T k) : TabAt w' S b D n := by
  obtain ⟨m, t, h1, h2, h3, h4⟩ := h
  exact ⟨m, t, c.heap h1 (hs _ h3), owns_kept h2 c (hs _ h4), h3, h4⟩
theorem TabAt.more {w : World} {S : Nat → Prop} {b n n' : Nat} {D : HD} (h : TabAt w S b D n) (hn : n ≤ n') : TabAt w S b D n' := by
  obtain ⟨m, t, h1, h2, h3, h4⟩ := h
  exact ⟨m, t, h1, h2.mono hn, h3, h4⟩

set_option maxRecDepth 100000 in
theorem new_tab (w : World) :
    Calls Try.prog 15 #[] w fun e w' => ∃ b, e = .returned (.pointer (some ⟨b, 0, none⟩)) ∧ TabAt w' (fun k => w.heap.size ≤ k) b (.map []) 0 ∧ Chg (fun _ => False) w w' := by
  have hmm := @run_makeMap Try.prog
  go_enter Try.func15, Try.ntmps15
  go_wp2_with fail
  go_ret
  refine ⟨_, rfl, ⟨w.heap.size, 79, heap_at_new _ _ _ (by simp), (World.ownsMap_made w _ _ _).alloc _, by simp, by simp⟩, ((Chg.refl _ w).alloc _).alloc _⟩

theorem strKey : Maps.Keyed Try.prog 9 := Maps.string_keyed Try.underlying9
theorem zeroHold (w : World) : (zeroValue 47).run Try.prog w = .ok (.agg #[.string ⟨#[]⟩, .string ⟨#[]⟩, .int .i64 0, .int .i64 0]) w := by kernel_rfl
theorem keyStr (s : List UInt8) (h : s.length ≤ maxLen) : keyOf Try.prog 9 (.string ⟨s.toArray⟩) = some (.string s) := by
  have := Go.WideMaps.keyOf_string_mk (P := Try.prog) (k := 9) Try.underlying9 (s := ⟨s.toArray⟩) (by show s.toArray.size ≤ _; simpa using h)
  simpa using this
/-- m[k] with ok. -/
theorem look_hold (w : World) (m n : Nat) (D : HD) (s : List UInt8) (hs : s.length ≤ maxLen) (h : w.ownsMap Try.prog 9 holdR m n D) :
    ∃ x : Hld, (Instr.lookup 77 (.map (some m)) (.string ⟨s.toArray⟩) true).run Try.prog w = .ok (.tuple #[.agg x.cells.toArray, .bool (Maps.has D (.string s))]) w := by
  obtain ⟨v, ps, h1, h2⟩ := h.look_ok strKey Try.underlying77 (zeroHold w) (zd := encH ⟨[], [], 0, 0⟩) (zp := []) (holdR_mk ⟨[], [], 0, 0⟩) (keyStr s hs)
  obtain ⟨x, rfl, _⟩ := holdR_inv h2
  exact ⟨x, h1⟩
end Go.Proofs.Ytmnnahkaenikkaa
