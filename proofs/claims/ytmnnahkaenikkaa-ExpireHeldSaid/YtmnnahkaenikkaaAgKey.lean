/- Aggregates as a map's keys. -/
import Derived.Test.YtmnnahkaenikkaaStk10
import Derived.Maps.RangeWalk
import Derived.Maps.OwnSet
import Derived.Maps.OwnOps
import Derived.DeepKeys4
namespace Go.Proofs.Ytmnnahkaenikkaa
open Go.RowKit Go.Cat
def in64 (n : Int) : Prop := -9223372036854775808 ≤ n ∧ n ≤ 9223372036854775807
def AgWf (a : Ag) : Prop := in64 a.tk ∧ in64 a.cnt ∧ in64 a.sum ∧ in64 a.mn ∧ in64 a.mx
theorem wf_of {n : Int} (h : in64 n) : (Lit.int .i64 n).wf = true := by
  have e1 : IntKind.i64.min = -9223372036854775808 := by decide
  have e2 : IntKind.i64.max = 9223372036854775807 := by decide
  show (decide (IntKind.i64.min ≤ n) && decide (n ≤ IntKind.i64.max)) = true
  rw [e1, e2, Bool.and_eq_true, decide_eq_true_eq, decide_eq_true_eq]
  exact h
theorem agLaid : laidOutB Try.prog = true := by kernel_rfl
theorem agRow : (58 : TypeId) < Try.prog.types.size := of_decide_eq_true (by kernel_rfl)
theorem agWide : (match Try.prog.underlying 58 with | some (.array _ _) | some (.struct _) => true | _ => false) = true := by rw [Try.underlying58]
set_option maxRecDepth 100000 in
theorem agLaw : Maps.Keyed Try.prog 58 := Maps.Keyed.of_law (deep_law_laid agLaid (m := 2) (by omega) agRow (by kernel_rfl) agWide)
theorem agType : Try.prog.keyType 58 = true := by kernel_rfl
theorem cells_ag : Try.prog.cellsOf 58 = 5 := by kernel_rfl
theorem cells_i64 : Try.prog.cellsOf 2 = 1 := by kernel_rfl
theorem lits_i64 (d : Nat) {n : Int} (h : in64 n) : Try.prog.keyLits (d + 1) 2 [.int .i64 n] = some [.int .i64 n] := by
  unfold Program.keyLits
  rw [Try.underlying2]
  simp [wf_of h]
theorem lits_ag (d : Nat) {a : Ag} (h : AgWf a) : Try.prog.keyLits (d + 2) 58 a.cells = some [.int .i64 a.tk, .int .i64 a.cnt, .int .i64 a.sum, .int .i64 a.mn, .int .i64 a.mx] := by
  obtain ⟨h0, h1, h2, h3, h4⟩ := h
  unfold Program.keyLits
  rw [Try.underlying58]
  simp only [cells_ag, cells_i64, Ag.cells]
  simp [cells_i64, lits_i64 d h0, lits_i64 d h1, lits_i64 d h2, lits_i64 d h3, lits_i64 d h4]
set_option maxRecDepth 100000 in
theorem key_some {a : Ag} (h : AgWf a) : ∃ l, keyOf Try.prog 58 (.agg a.cells.toArray) = some l := by
  have hf : (Value.agg a.cells.toArray).formed Try.prog 58 = true := by
    simp [Value.formed, Try.underlying58, cells_ag]
  obtain ⟨m, hm⟩ : ∃ m, Try.prog.types.size = m + 1 := ⟨_, (Nat.succ_pred_eq_of_pos (Nat.lt_of_le_of_lt (Nat.zero_le _) agRow)).symm⟩
  refine ⟨.string (keyBytes [.int .i64 a.tk, .int .i64 a.cnt, .int .i64 a.sum, .int .i64 a.mn, .int .i64 a.mx]), ?_⟩
  unfold keyOf
  rw [Try.underlying58]
  show (if _ then _ else _) = _
  rw [agType, hf, Bool.and_true, if_pos rfl, hm]
  show (Try.prog.keyLits (m + 2) 58 a.cells).map _ = _
  rw [lits_ag m h]
  rfl
/-- The key that an aggregate is. -/
noncomputable def kA (a : Ag) : Lit := (keyOf Try.prog 58 (.agg a.cells.toArray)).getD .nil
theorem key_ag {a : Ag} (h : AgWf a) : keyOf Try.prog 58 (.agg a.cells.toArray) = some (kA a) := by
  obtain ⟨l, hl⟩ := key_some h
  unfold kA
  rw [hl]; rfl
theorem kA_inj {a b : Ag} (ha : AgWf a) (hb : AgWf b) (h : kA a = kA b) : a = b := by
  have h1 := key_ag ha
  rw [h] at h1
  have h2 := agLaw.inj h1 (key_ag hb)
  obtain ⟨a0, a1, a2, a3, a4⟩ := a
  obtain ⟨b0, b1, b2, b3, b4⟩ := b
  simp [Ag.cells] at h2
  obtain ⟨rfl, rfl, rfl, rfl, rfl⟩ := h2
  rfl
abbrev HB := DataW Unit
/-- The map holds just the aggregates of a row. -/
def SetOf (D : HB) (L : List Ag) : Prop := Maps.IsMap D ∧ ∀ a, AgWf a → D.atKey (kA a) (.lit (.bool false)) = .lit (.bool (decide (a ∈ L)))
theorem SetOf.nil : SetOf (.map []) [] := ⟨Maps.isMap_empty, fun a _ => by simp [DataW.atKey]⟩
set_option maxRecDepth 100000 in
theorem SetOf.put {D : HB} {L : List Ag} (h : SetOf D L) {p : Ag} (hp : AgWf p) : SetOf (D.put (kA p) (.lit (.bool true))) (L ++ [p]) := by
  refine ⟨h.1.put _ _, fun a ha => ?_⟩
  by_cases e : a = p
  · subst e
    rw [Maps.atKey_put_same h.1 (agLaw.key (key_ag ha))]
    simp
  · rw [Maps.atKey_put_other (fun e' => e (kA_inj ha hp e'))]
    rw [h.2 a ha]
    simp [e]
end Go.Proofs.Ytmnnahkaenikkaa
