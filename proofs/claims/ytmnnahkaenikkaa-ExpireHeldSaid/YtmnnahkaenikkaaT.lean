/- Steps of a region that draws its order: loads from a known cell, stores into one. No program is named. -/
import Derived.Test.YtmnnahkaenikkaaArr
namespace Go.Cat
open Go.RowKit
section
variable {P : Program}
def oneT (P : Program) (t : TypeId) : Bool := match P.underlying t with
  | some (.struct _) => false
  | some (.array _ _) => false
  | some _ => true
  | none => false
theorem run_loadAt_one (w : World) (t : TypeId) (ht : oneT P t = true) (p : Addr) (v : Value) (hc : w.cell? p = some v) : (Instr.loadAt t (.pointer (some p))).run P w = .ok v w := by
  unfold oneT at ht
  split at ht
  · simp at ht
  · simp at ht
  · rename_i d hs ha hd
    have hagg : (isAgg t).run P w = .ok false w := by
      unfold isAgg
      rw [Sem.run_bind, run_underlying hd w]
      cases d <;> simp_all
    simp [Instr.loadAt, Instr.sureAddr, loadVar, Sem.run_bind, hagg, hc]
  · simp at ht
theorem run_storeAt_one (w : World) (t : TypeId) (ht : (P.info? t).map (·.size) = some 1) (p : Addr) (u v : Value) (hc : w.cell? p = some u) (hf : w.frozen? p = false) (h1 : v.oneCell' = true) :
    (Instr.storeAt t (.pointer (some p)) v).run P w = .ok () (w.setCell p v) := by
  have hcs : v.cells = #[v] := by cases v <;> simp_all [Value.oneCell', Value.cells]
  have hp : p.add 0 = p := by cases p with | mk b o s => cases s <;> simp [Addr.add]
  cases hq : P.info? t with
  | none => simp [hq] at ht
  | some i =>
    have hs : i.size = 1 := by simpa [hq] using ht
    simp [Instr.storeAt, Instr.sureAddr, storeVar, sizeOf, typeInfo, hq, hs, hcs, storeCells, hp, run_store P w p v _ h1, hc, hf]
variable {T : Nat → Prop} {fuel : Nat} {listed : Array Bool} {a : Act} {w : World} {l : List Oper} {Q : Exit → Act → World → Prop}
/-- A load from a cell that is known here and that doesn't turn. -/
theorem wpT.ld (i : Nat) {oi : Oper} {rest : List Oper} (hi : l.drop i = oi :: rest) (hok : okTake l.toArray listed i = true) (hQ : ∀ (v : Value) c a w, Q (.panic c) (a.put oi.dst v) w → Q (.panic c) a w)
    (hw : Region.wanted oi (yielded l.toArray a.tmps) = true) (t : TypeId) (x : Operand) (ho : oi.op = .load t x) (ht : oneT P t = true) (p : Addr) (hx : a.eval x = .pointer (some p)) (v : Value) (hc : w.cell? p = some v) (hs : ¬ T p.block)
    (h : wpT P l.toArray Q T fuel (listed.setIfInBounds i true) (a.put oi.dst v) w) : wpT P l.toArray Q T (fuel + 1) listed a w :=
  wpT.take i hi hok (hQ v) hw (fun w' hw' => exec_load t x _ _ ho hx (run_loadAt_one w' t ht p v (hw'.cell hc hs))) h
/-- A load of a whole array or struct that lies at the begin of a block. -/
theorem wpT.ldA (i : Nat) {oi : Oper} {rest : List Oper} (hi : l.drop i = oi :: rest) (hok : okTake l.toArray listed i = true) (hQ : ∀ (v : Value) c a w, Q (.panic c) (a.put oi.dst v) w → Q (.panic c) a w)
    (hw : Region.wanted oi (yielded l.toArray a.tmps) = true) (t : TypeId) (x : Operand) (ho : oi.op = .load t x) (d : TypeDesc) (hu : P.underlying t = some d) (hd : (match d with | .struct _ | .array _ _ => true | _ => false) = true)
    (b : Nat) (hx : a.eval x = .pointer (some ⟨b, 0, none⟩)) (cs : List Value) (hin : (P.info? t).map (·.size) = some cs.length) (T' : TypeId) (f : Nat × Nat) (hc : w.heap[b]? = some (.cells cs.toArray T' f)) (hs : ¬ T b)
    (h : wpT P l.toArray Q T fuel (listed.setIfInBounds i true) (a.put oi.dst (.agg cs.toArray)) w) : wpT P l.toArray Q T (fuel + 1) listed a w :=
  wpT.take i hi hok (hQ _) hw (fun w' hw' => exec_load t x _ _ ho hx (run_loadAt_agg w' t d b 0 cs hu hd hin (fun j u hj => by
    have hb := hw'.heap hc hs
    rw [Nat.zero_add]
    simp only [World.cell?, hb]
    simpa using hj))) h
/-- A load of a whole struct that lies within a row. -/
theorem wpT.ldR (i : Nat) {oi : Oper} {rest : List Oper} (hi : l.drop i = oi :: rest) (hok : okTake l.toArray listed i = true) (hQ : ∀ (v : Value) c a w, Q (.panic c) (a.put oi.dst v) w → Q (.panic c) a w)
    (hw : Region.wanted oi (yielded l.toArray a.tmps) = true) (t : TypeId) (x : Operand) (ho : oi.op = .load t x) (d : TypeDesc) (hu : P.underlying t = some d) (hd : (match d with | .struct _ | .array _ _ => true | _ => false) = true)
    (b o : Nat) (hx : a.eval x = .pointer (some ⟨b, o, none⟩)) (cs : List Value) (hin : (P.info? t).map (·.size) = some cs.length) (hc : ∀ (j : Nat) (u : Value), cs[j]? = some u → w.cell? ⟨b, o + j, none⟩ = some u) (hs : ¬ T b)
    (h : wpT P l.toArray Q T fuel (listed.setIfInBounds i true) (a.put oi.dst (.agg cs.toArray)) w) : wpT P l.toArray Q T (fuel + 1) listed a w :=
  wpT.take i hi hok (hQ _) hw (fun w' hw' => exec_load t x _ _ ho hx (run_loadAt_agg w' t d b o cs hu hd hin (fun j u hj => hw'.cell (hc j u hj) hs))) h
/-- A store of one cell, when it alone may come up. -/
theorem wpT.st (i : Nat) {oi : Oper} {rest : List Oper} (hi : l.drop i = oi :: rest) (hr : Region.ready .any l.toArray listed = [i])
    (hw : Region.wanted oi (yielded l.toArray a.tmps) = true) (t : TypeId) (x y : Operand) (ho : oi.op = .store t x y) (ht : (P.info? t).map (·.size) = some 1) (p : Addr) (hx : a.eval x = .pointer (some p)) (v : Value) (hy : a.eval y = v)
    (u : Value) (hc : w.cell? p = some u) (hf : w.frozen? p = false) (h1 : v.oneCell' = true) (hT : T p.block)
    (h : wpT P l.toArray Q T fuel (listed.setIfInBounds i true) (a.put oi.dst undef) (w.setCell p v)) : wpT P l.toArray Q T (fuel + 1) listed a w :=
  wpT.call i hi hr hw fun K hK => wp_skipped (w.setCell p v) (exec_store t x y _ _ _ ho hx hy (run_storeAt_one w t ht p u v hc hf h1)) (hK _ _ ((Chg.refl T w).setCell (fun _ => hT) v) h)
theorem wpList_ld1 {ops : Array Oper} {rest : List Oper} {o : Oper} (hgd : o.guard = none) (t : TypeId) (x : Operand) (ho : o.op = .load t x) (ht : oneT P t = true) (p : Addr) (hx : a.eval x = .pointer (some p)) (v : Value) (hc : w.cell? p = some v)
    (hk : wpList P ops Q rest (a.put o.dst v) w) : wpList P ops Q (o :: rest) a w := wpList_load hgd t x ho _ v hx (run_loadAt_one w t ht p v hc) hk
theorem wpList_loadG {P : Program} {ops : Array Oper} {rest : List Oper} {o : Oper} {a : Act} {w : World} {Q : Exit → Act → World → Prop} (t : TypeId) (x : Operand) (ho : o.op = .load t x) (hgd : Region.wanted o (yielded ops a.tmps) = true) (p v : Value) (hx : a.eval x = p) (h : (Instr.loadAt t p).run P w = .ok v w)
    (hk : wpList P ops Q rest (a.put o.dst v) w) : wpList P ops Q (o :: rest) a w := by
  unfold wpList
  rw [if_pos hgd]
  left
  unfold Oper.wp execOp
  simp only [ho, hx, Sem.run_bind, Sem.run_pure, h, Result.andThen_ok]
  exact hk
end
end Go.Cat
