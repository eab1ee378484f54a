/- Whole arrays by value; copy; rows of elements of one size. No program is named. -/
import Derived.Laws.Rows
import Derived.Laws.Tables
import Derived.Laws.IdiomCopy
import Derived.Deep.WholeRow
import Derived.Deep.RegionLaw
import Derived.Test.YtmnnahkaenikkaaR
namespace Go.Cat
open Go.RowKit
section
variable {P : Program}

theorem run_loadAt_agg (w : World) (t : TypeId) (d : TypeDesc) (g off : Nat) (cs : List Value) (hu : P.underlying t = some d) (hd : (match d with | .struct _ | .array _ _ => true | _ => false) = true)
    (hi : (P.info? t).map (·.size) = some cs.length) (hc : ∀ (j : Nat) (u : Value), cs[j]? = some u → w.cell? ⟨g, off + j, none⟩ = some u) :
    (Instr.loadAt t (.pointer (some ⟨g, off, none⟩))).run P w = .ok (.agg cs.toArray) w := by
  have hl : (loadCells ⟨g, off, none⟩ cs.length).run P w = .ok cs.toArray w :=
    run_loadCells_list (P := P) w ⟨g, off, none⟩ cs (fun j v hv => by rw [addr_add]; exact hc j v hv)
  cases hq : P.info? t with
  | none => simp [hq] at hi
  | some i =>
    have hs : i.size = cs.length := by simpa [hq] using hi
    have hagg : (isAgg t).run P w = .ok true w := by
      unfold isAgg
      rw [Sem.run_bind, run_underlying hu w]
      cases d <;> simp_all
    simp [Instr.loadAt, Instr.sureAddr, loadVar, Sem.run_bind, hagg, sizeOf, typeInfo, hq, hs, hl]
theorem run_storeAt_agg (w : World) (t : TypeId) (g off : Nat) (cs : List Value) (hi : (P.info? t).map (·.size) = some cs.length)
    (hc : ∀ j, j < cs.length → (w.cell? ⟨g, off + j, none⟩).isSome = true) (hf : ∀ j, j < cs.length → w.frozen? ⟨g, off + j, none⟩ = false) (h1 : ∀ v ∈ cs, v.oneCell' = true) :
    (Instr.storeAt t (.pointer (some ⟨g, off, none⟩)) (.agg cs.toArray)).run P w = .ok () (w.setCells g off cs) := by
  have hst := run_storeCells_cells (P := P) g off cs 0 w (by simpa using hc) (by simpa using hf) h1
  cases hq : P.info? t with
  | none => simp [hq] at hi
  | some i =>
    have hs : i.size = cs.length := by simpa [hq] using hi
    simp [Instr.storeAt, Instr.sureAddr, storeVar, sizeOf, typeInfo, hq, hs, Value.cells, hst]
theorem run_alloc_agg (w : World) (t : TypeId) (z : Value) (n : Nat) (h : (P.info? t).map (fun i => (i.zero, i.size)) = some (some z, n)) :
    (Instr.alloc t true (.tuple #[])).run P w = .ok (.pointer (some ⟨w.heap.size, 0, none⟩)) (w.alloc (.cells z.cells t)) := by
  have hz := (zero_of_info h).1
  simp [Instr.alloc, hz w, newVar, newRow]

variable {ops : Array Oper} {rest : List Oper} {o : Oper} {a : Act} {w : World} {Q : Exit → Act → World → Prop}
theorem wpList_load (hgd : o.guard = none) (t : TypeId) (x : Operand) (ho : o.op = .load t x) (p v : Value) (hx : a.eval x = p) (h : (Instr.loadAt t p).run P w = .ok v w)
    (hk : wpList P ops Q rest (a.put o.dst v) w) : wpList P ops Q (o :: rest) a w :=
  wpList_plain hgd fun _ hK => by
    unfold Oper.wp execOp
    simp only [ho, hx, Sem.run_bind, Sem.run_pure, h, Result.andThen_ok]
    exact hK _ _ hk
theorem wpList_store (hgd : o.guard = none) (t : TypeId) (x y : Operand) (ho : o.op = .store t x y) (p v : Value) (w' : World) (hx : a.eval x = p) (hy : a.eval y = v) (h : (Instr.storeAt t p v).run P w = .ok () w')
    (hk : wpList P ops Q rest (a.put o.dst undef) w') : wpList P ops Q (o :: rest) a w :=
  wpList_plain hgd fun _ hK => by
    unfold Oper.wp execOp
    simp only [ho, hx, hy, Sem.run_bind, Sem.run_pure, h, Result.andThen_ok]
    exact hK _ _ hk
theorem wpList_alloc (hgd : o.guard = none) (t : TypeId) (ho : o.op = .alloc t) (z : Value) (n : Nat) (h : (P.info? t).map (fun i => (i.zero, i.size)) = some (some z, n))
    (hk : wpList P ops Q rest (a.put o.dst (.pointer (some ⟨w.heap.size, 0, none⟩))) (w.alloc (.cells z.cells t))) : wpList P ops Q (o :: rest) a w :=
  wpList_plain hgd fun _ hK => by
    unfold Oper.wp execOp
    simp only [ho, Sem.run_bind, Sem.run_pure, run_alloc_agg w t z n h, Result.andThen_ok]
    exact hK _ _ hk
theorem exec_load (t : TypeId) (x : Operand) (p v : Value) (ho : o.op = .load t x) (hx : a.eval x = p) (h : (Instr.loadAt t p).run P w = .ok v w) : (execOp a.eval o).run P w = .ok (.value v) w := by
  unfold execOp
  simp only [ho, hx, Sem.run_bind, Sem.run_pure, h, Result.andThen_ok]
theorem exec_store (t : TypeId) (x y : Operand) (p v : Value) (w' : World) (ho : o.op = .store t x y) (hx : a.eval x = p) (hy : a.eval y = v) (h : (Instr.storeAt t p v).run P w = .ok () w') : (execOp a.eval o).run P w = .ok .skip w' := by
  unfold execOp
  simp only [ho, hx, hy, Sem.run_bind, Sem.run_pure, h, Result.andThen_ok]
theorem wp_skipped {K : Act → World → Prop} (w' : World) (h : (execOp a.eval o).run P w = .ok .skip w') (hk : K (a.put o.dst undef) w') : o.wp P a w K Q := by
  unfold Oper.wp
  rw [h]
  exact hk
theorem exec_buildSlice (t : TypeId) (n i : Nat) (x : Operand) (v0 v : Value) (w' : World) (ho : o.op = .buildSlice t n #[(i, x)]) (hx : a.eval x = v0) (h : (Instr.buildSlice t n #[(i, v0)]).run P w = .ok v w') : (execOp a.eval o).run P w = .ok (.value v) w' := by
  unfold execOp
  simp [ho, hx, h]
theorem wp_run {K : Act → World → Prop} (v : Value) (w' : World) (h : (execOp a.eval o).run P w = .ok (.value v) w') (hk : K (a.put o.dst v) w') : o.wp P a w K Q := by
  unfold Oper.wp
  rw [h]
  exact hk
theorem wpList_buildA (hgd : o.guard = none) (t : TypeId) (parts : Array (Nat × Operand)) (ho : o.op = .build t parts) (v : Value) (h : (Instr.build t (parts.map fun (i, x) => (i, a.eval x))).run P w = .ok v w)
    (hk : wpList P ops Q rest (a.put o.dst v) w) : wpList P ops Q (o :: rest) a w :=
  wpList_plain hgd fun _ hK => by
    unfold Oper.wp execOp
    simp only [ho, Sem.run_bind, Sem.run_pure, h, Result.andThen_ok]
    exact hK _ _ hk

/-- Two that may come up: either. -/
theorem wpT.both {T : Nat → Prop} {fuel : Nat} {listed : Array Bool} {l : List Oper} (i j : Nat) {oi oj : Oper} {ri rj : List Oper} (hi : l.drop i = oi :: ri) (hj : l.drop j = oj :: rj) (hr : Region.ready .any l.toArray listed = [i, j])
    (hwi : Region.wanted oi (yielded l.toArray a.tmps) = true) (hwj : Region.wanted oj (yielded l.toArray a.tmps) = true)
    (h1 : ∀ K : Act → World → Prop, (∀ a' w', Chg T w w' → wpT P l.toArray Q T fuel (listed.setIfInBounds i true) a' w' → K a' w') → Oper.wp P oi a w K Q)
    (h2 : ∀ K : Act → World → Prop, (∀ a' w', Chg T w w' → wpT P l.toArray Q T fuel (listed.setIfInBounds j true) a' w' → K a' w') → Oper.wp P oj a w K Q) : wpT P l.toArray Q T (fuel + 1) listed a w := by
  refine wpAnyH_all hr (by simp) fun k hk => ?_
  rcases List.mem_cons.1 hk with rfl | hk
  · unfold wpOp
    simp only [drop_at hi, hwi, if_true]
    exact .inl (h1 _ fun a' w' hc h' => ⟨hc, wpAnyH_mono (fun w'' h'' => hc.trans h'') _ _ _ _ h'⟩)
  · obtain rfl : k = j := by simpa using hk
    unfold wpOp
    simp only [drop_at hj, hwj, if_true]
    exact .inl (h2 _ fun a' w' hc h' => ⟨hc, wpAnyH_mono (fun w'' h'' => hc.trans h'') _ _ _ _ h'⟩)
theorem wpList_appm (hgd : o.guard = none) (s x : Operand) (t : TypeId)
    (ho : o.op = .call { callee := .builtin .append, args := #[s, x], argTypes := #[t, t] })
    (e : TypeId) (z : Value) (size bytes : Nat) (ht : P.underlying t = some (.slice e)) (hi : (P.info? e).map (fun i => (i.zero, i.size, i.bytes)) = some (some z, size, bytes)) (hzs : z.cells.size = size)
    (v : Value) (n : Nat) (xs : List Value) (hs : a.eval s = v) (hown : Owns w size v n xs)
    (y : Value) (m : Nat) (news : List Value) (hy : a.eval x = y) (hx : Reads w size y m news) (h1 : ∀ u ∈ news, u.oneCell' = true)
    (h63 : n + m ≤ maxLen) (hbytes : (n + m) * bytes ≤ 140737488355328)
    (h : ∀ v' w', Owns w' size v' (n + m) (xs ++ news) → Chg (fun k => v.ownBlock = some k) w w' → (∀ k, v'.ownBlock = some k → v.ownBlock = some k ∨ k = w.heap.size) → (v' = .slice none 0 0 ↔ v = .slice none 0 0 ∧ m = 0) → wpList P ops Q rest (a.put o.dst v') w') : wpList P ops Q (o :: rest) a w :=
  wpList_plain hgd fun _ hK => wp_app s x t ho e z size bytes ht hi hzs v n xs hs hown y m news hy hx h1 h63 hbytes fun v' w' g1 g2 g3 g4 => hK _ _ (h v' w' g1 g2 g3 g4)
/-- append, as one step of a region that draws its order. -/
theorem step_app {K : Act → World → Prop} {E : Prop} (hgd : o.guard = none) (s x : Operand) (t : TypeId)
    (ho : o.op = .call { callee := .builtin .append, args := #[s, x], argTypes := #[t, t] })
    (e : TypeId) (z : Value) (size bytes : Nat) (ht : P.underlying t = some (.slice e)) (hi : (P.info? e).map (fun i => (i.zero, i.size, i.bytes)) = some (some z, size, bytes)) (hzs : z.cells.size = size)
    (v : Value) (n : Nat) (xs : List Value) (hs : a.eval s = v) (hown : Owns w size v n xs)
    (y : Value) (m : Nat) (news : List Value) (hy : a.eval x = y) (hx : Reads w size y m news) (h1 : ∀ u ∈ news, u.oneCell' = true)
    (h63 : n + m ≤ maxLen) (hbytes : (n + m) * bytes ≤ 140737488355328)
    (h : ∀ v' w', Owns w' size v' (n + m) (xs ++ news) → Chg (fun k => v.ownBlock = some k) w w' → (∀ k, v'.ownBlock = some k → v.ownBlock = some k ∨ k = w.heap.size) → (v' = .slice none 0 0 ↔ v = .slice none 0 0 ∧ m = 0) → K (a.put o.dst v') w') :
    if Region.wanted o (yielded ops a.tmps) = true then Oper.wp P o a w K Q else E := by
  have hw : Region.wanted o (yielded ops a.tmps) = true := by simp [Region.wanted, hgd]
  rw [if_pos hw]
  exact wp_app s x t ho e z size bytes ht hi hzs v n xs hs hown y m news hy hx h1 h63 hbytes h
/-- Bytes that can be read; an empty slice without room may lie anywhere. -/
def RBz (w : World) (v : Value) (l : List UInt8) : Prop := RB w v l ∨ (l = [] ∧ ∃ a, v = .slice a 0 0)
theorem RBz.form {w : World} {v : Value} {l : List UInt8} (h : RBz w v l) : ∃ a c, v = .slice a l.length c := by
  rcases h with h | ⟨rfl, a, rfl⟩
  · exact h.form
  · exact ⟨a, 0, rfl⟩
theorem RBz.len {w : World} {a : Option Addr} {n c : Nat} {l : List UInt8} (h : RBz w (.slice a n c) l) : n = l.length := by
  rcases h with h | ⟨rfl, b, hb⟩
  · exact h.cap_ge.1
  · simp only [Value.slice.injEq] at hb; exact hb.2.1
theorem RBz.same {w w' : World} {v : Value} {l : List UInt8} (h : RBz w v l) (c : Chg (fun _ => False) w w') : RBz w' v l := by
  rcases h with h | h
  · exact .inl (h.kept c (fun _ _ hf => hf))
  · exact .inr h
theorem RBz.alloc {w : World} {v : Value} {l : List UInt8} (h : RBz w v l) (o : Obj) : RBz (w.alloc o) v l := h.same ((Chg.refl _ w).alloc o)
theorem run_string_z {P : Program} (w : World) (src dst e : TypeId) (hs : P.underlying src = some (.slice e)) (he : P.underlying e = some (.int .u8)) (hd : P.underlying dst = some .string)
    (v : Value) (l : List UInt8) (h : RBz w v l) : (convert src dst v).run P w = .ok (.string ⟨l.toArray⟩) w := by
  rcases h with h | ⟨rfl, a, rfl⟩
  · exact run_string_of w src dst e hs he hd v l h
  · rw [run_convert_bytes_string w src dst e a 0 0 hs he hd]
    cases a with
    | none => rfl
    | some a =>
      have := run_bytesToString (P := P) w a 0 0 [] (by simpa using run_loadCells_list (P := P) w a [] (by simp))
      rw [this]; rfl
/-- Bytes are copied. -/
theorem run_copy_rb (w : World) (dT sT ty e : TypeId) (hu : P.underlying dT = some (.slice e)) (hsz : (P.info? e).map (·.size) = some 1) (b off dLen dCap : Nat) (sp : Option Addr) (sLen sCap : Nat) (l : List UInt8)
    (hl : RBz w (.slice sp sLen sCap) l) (k : Nat) (hk : k = min l.length dLen) (hc : ∀ j, j < k → (w.cell? ⟨b, off + j, none⟩).isSome = true) (hf : ∀ j, j < k → w.frozen? ⟨b, off + j, none⟩ = false) :
    (Builtin.copy_ #[dT, sT] ty #[.slice (some ⟨b, off, none⟩) dLen dCap, .slice sp sLen sCap]).run P w = .ok (goInt k) (w.setCells b off (bs (l.take k))) := by
  have hlen := hl.len
  subst hlen
  by_cases h0 : k = 0
  · rw [h0]
    have := run_copy_none (P := P) w dT sT ty e (some ⟨b, off, none⟩) sp dLen dCap l.length sCap hu hsz (show min l.length dLen = 0 by omega)
    simpa [bs, World.setCells, goInt] using this
  · rcases hl with hl | ⟨he, _⟩
    case inr => rw [he] at hk; simp at hk; omega
    rcases hl.2 with ⟨_, hn⟩ | ⟨g, o', c, hv, _, _, _, h4⟩
    · omega
    · simp only [Value.slice.injEq, true_and] at hv
      obtain ⟨rfl, rfl⟩ := hv
      have hll : (bs (l.take k)).length = k := by simp; omega
      have := run_copy_cells (P := P) w dT sT ty e b off dLen dCap ⟨g, o', none⟩ l.length sCap (bs (l.take k)) hu hsz (by rw [hll]; exact hk)
        (fun j v hj => by
          rw [addr_add]
          have hjl := (List.getElem?_eq_some_iff.1 hj).1
          rw [hll] at hjl
          refine h4 j v ?_
          rw [bs_get _ j (by simp; omega)] at hj
          rw [bs_get _ j (by omega)]
          simpa using hj)
        (by rw [hll]; exact hc) (by rw [hll]; exact hf) (bs_one _)
      rw [this, hll]
theorem wp_copy {K : Act → World → Prop} (d s : Operand) (dT sT : TypeId) (ho : o.op = .call { callee := .builtin .copy, args := #[d, s], argTypes := #[dT, sT] }) (x y v : Value) (w' : World) (hx : a.eval d = x) (hy : a.eval s = y)
    (h : (Builtin.copy_ #[dT, sT] o.type #[x, y]).run P w = .ok v w') (hk : K (a.put o.dst v) w') : o.wp P a w K Q := by
  unfold Oper.wp
  simp [execOp, ho, resolve, invoke, builtin, hx, hy, h, Result.andThen]
  exact hk
theorem wpList_copy (hgd : o.guard = none) (d s : Operand) (dT sT : TypeId) (ho : o.op = .call { callee := .builtin .copy, args := #[d, s], argTypes := #[dT, sT] }) (x y : Value) (hx : a.eval d = x) (hy : a.eval s = y) (w' : World) (k : Nat)
    (h : (Builtin.copy_ #[dT, sT] o.type #[x, y]).run P w = .ok (goInt k) w') (hk : wpList P ops Q rest (a.put o.dst (goInt k)) w') : wpList P ops Q (o :: rest) a w := by
  refine wpList_plain hgd fun K hK => ?_
  unfold Oper.wp
  simp [execOp, ho, resolve, invoke, builtin, hx, hy, h, Result.andThen]
  exact hK _ _ hk
end

theorem setCells_alloc : ∀ (vs : List Value) (w : World) (c : List Value) (t : TypeId) (off : Nat), off + vs.length ≤ c.length →
    (w.alloc (.cells c.toArray t)).setCells w.heap.size off vs = w.alloc (.cells (c.take off ++ vs ++ c.drop (off + vs.length)).toArray t)
  | [], w, c, t, off, _ => by simp [World.setCells]
  | v :: r, w, c, t, off, h => by
    have hl : off < c.length := by simp at h; omega
    rw [World.setCells, World.setCell_alloc_new, List.setIfInBounds_toArray, setCells_alloc r w (c.set off v) t (off + 1) (by simp at h ⊢; omega)]
    congr 3
    rw [List.set_eq_take_append_cons_drop, if_pos hl]
    have e1 : (c.take off).length = off := by simp; omega
    have e2 : (List.take off c ++ v :: List.drop (off + 1) c).take (off + 1) = c.take off ++ [v] := by
      rw [List.take_append, e1, List.take_of_length_le (by omega)]; simp
    have e3 : (List.take off c ++ v :: List.drop (off + 1) c).drop (off + 1 + r.length) = c.drop (off + (v :: r).length) := by
      rw [List.drop_append, e1, List.drop_eq_nil_of_le (by omega), show off + 1 + r.length - off = r.length + 1 by omega]
      simp only [List.nil_append, List.drop_succ_cons, List.drop_drop, List.length_cons]
      congr 1; omega
    rw [e2, e3]; simp
theorem fold_set (off : Nat) : ∀ (l : List Value) (k : Nat) (cs : List Value), off + k + l.length ≤ cs.length →
    (l.zipIdx k).foldl (fun cs x => cs.setIfInBounds (off + x.2) x.1) cs.toArray = (cs.take (off + k) ++ l ++ cs.drop (off + k + l.length)).toArray
  | [], k, cs, _ => by simp
  | v :: r, k, cs, h => by
    have hl : off + k < cs.length := by simp at h; omega
    simp only [List.zipIdx_cons, List.foldl_cons, List.setIfInBounds_toArray]
    rw [fold_set off r (k + 1) (cs.set (off + k) v) (by simp at h ⊢; omega)]
    congr 1
    rw [List.set_eq_take_append_cons_drop, if_pos hl]
    have e1 : (cs.take (off + k)).length = off + k := by simp; omega
    have e2 : (List.take (off + k) cs ++ v :: List.drop (off + k + 1) cs).take (off + (k + 1)) = cs.take (off + k) ++ [v] := by
      rw [List.take_append, e1, List.take_of_length_le (by omega), show off + (k + 1) - (off + k) = 1 by omega]; simp
    have e3 : (List.take (off + k) cs ++ v :: List.drop (off + k + 1) cs).drop (off + (k + 1) + r.length) = cs.drop (off + k + (v :: r).length) := by
      rw [List.drop_append, e1, List.drop_eq_nil_of_le (by omega), show off + (k + 1) + r.length - (off + k) = r.length + 1 by omega]
      simp only [List.nil_append, List.drop_succ_cons, List.drop_drop, List.length_cons]
      congr 1; omega
    rw [e2, e3]; simp
/-- A slice literal of one element that is a whole array or struct. -/
theorem run_buildSlice_one {P : Program} (w : World) (t e : TypeId) (z : Value) (size bytes : Nat) (ht : P.underlying t = some (.slice e)) (hi : (P.info? e).map (fun i => (i.zero, i.size, i.bytes)) = some (some z, size, bytes))
    (c : List Value) (hc : c.length = size) (h0 : 0 < size) (hm : size ≤ 16777216) :
    (Instr.buildSlice t 1 #[(0, .agg c.toArray)]).run P w = .ok (.slice (some ⟨w.heap.size, 0, none⟩) 1 1) (w.alloc (.cells c.toArray e)) := by
  obtain ⟨i, hi, hz0, hz1, hz2⟩ := info_parts hi
  obtain ⟨zs, hzl⟩ : ∃ zs : List Value, (Array.range size).map (fun j => z.cells[j % z.cells.size]!) = zs.toArray ∧ zs.length = size := ⟨((Array.range size).map (fun j => z.cells[j % z.cells.size]!)).toList, by rw [Array.toArray_toList], by simp⟩
  have hfill : Instr.fill (fun i => some (i * size, size)) zs.toArray [(0, .agg c.toArray)] = some c.toArray := by
    have := fold_set 0 c 0 zs (by omega)
    simp only [Nat.zero_add] at this
    simp only [Instr.fill, Value.cells, List.size_toArray, hc, hzl.2, Nat.zero_mul, Nat.zero_add]
    rw [if_neg (by simp), ← Array.foldl_toList, Array.toList_zipIdx]
    simp only [this]
    rw [List.drop_eq_nil_of_le (by omega)]
    simp
  have hne : ¬ size = 0 := by omega
  have hgt : ¬ 16777216 < size := by omega
  simp [Instr.buildSlice, run_underlying ht, sizeOf, typeInfo, hi, hz1, Nat.one_mul, hgt, hne, zeroValue, hz0, hzl.1, hfill, newRow]
theorem Owns.drew {w : World} {size : Nat} {v : Value} {n : Nat} {xs : List Value} (h : Owns w size v n xs) : Owns w.drew size v n xs := h.kept (S := fun _ => False) (Chg.refl _ w).drew (fun _ _ hf => hf)
theorem bits_one (x : Nat) : bits .and .u64 (x : Int) 1 = ((x % 2 : Nat) : Int) := by
  have e1 : (BitVec.ofInt IntKind.u64.bits (x : Int)).toNat = x % 18446744073709551616 := by
    rw [BitVec.toNat_ofInt]
    have : ((2 ^ IntKind.u64.bits : Nat) : Int) = 18446744073709551616 := by decide
    rw [this]; omega
  have e2 : (BitVec.ofInt IntKind.u64.bits 1).toNat = 1 := by decide
  have e3 : (BitVec.ofInt IntKind.u64.bits (x : Int) &&& BitVec.ofInt IntKind.u64.bits 1).toNat = x % 2 := by
    rw [BitVec.toNat_and, e1, e2, Nat.and_one_is_mod]; omega
  simp only [bits, e3]
  have : ∀ y : Nat, y < 2 → IntKind.u64.wrap (y : Int) = y := by
    intro y hy
    obtain rfl | rfl : y = 0 ∨ y = 1 := by omega
    · decide
    · decide
  exact this _ (by omega)
theorem bits_test (keep j : Nat) : bits .and .u64 ((keep : Int) / 2 ^ j) 1 = if keep.testBit j = true then 1 else 0 := by
  have h := bits_one (keep / 2 ^ j)
  have e : ((keep / 2 ^ j : Nat) : Int) = (keep : Int) / 2 ^ j := by simp
  rw [← e, h, Nat.testBit_eq_decide_div_mod_eq]
  by_cases hb : keep / 2 ^ j % 2 = 1
  · simp [hb]
  · have : keep / 2 ^ j % 2 = 0 := by omega
    simp [this]
theorem heap_at_new (w : World) (o : Obj) (k : Nat) (h : k = w.heap.size) : (w.alloc o).heap[k]? = some o := by subst h; exact heap_alloc_new w o
section
variable {α : Type} {f : α → List Value} {s : Nat}
theorem rows_len (l : List α) (h : ∀ x ∈ l, (f x).length = s) : (l.flatMap f).length = l.length * s := by
  induction l with
  | nil => simp
  | cons x l ih =>
    simp only [List.flatMap_cons, List.length_append, List.length_cons, h x (by simp), ih (fun y hy => h y (by simp [hy])), Nat.add_mul, Nat.one_mul]
    omega
theorem rows_at : ∀ (l : List α) (_ : ∀ x ∈ l, (f x).length = s) (i c : Nat) (x : α), l[i]? = some x → c < s → (l.flatMap f)[i * s + c]? = (f x)[c]?
  | [], _, i, c, x, hx, _ => by simp at hx
  | y :: l, h, 0, c, x, hx, hc => by
    simp at hx; subst hx
    have := h y (by simp)
    simp only [List.flatMap_cons, Nat.zero_mul, Nat.zero_add]
    rw [List.getElem?_append_left (by omega)]
  | y :: l, h, i + 1, c, x, hx, hc => by
    have := h y (by simp)
    have ih := rows_at l (fun z hz => h z (by simp [hz])) i c x (by simpa using hx) hc
    simp only [List.flatMap_cons]
    rw [List.getElem?_append_right (by rw [this, Nat.add_mul]; omega), ← ih]
    congr 1
    rw [this, Nat.add_mul]; omega
theorem rows_put : ∀ (l : List α) (_ : ∀ x ∈ l, (f x).length = s) (i c : Nat) (x y : α) (cs : List Value), l[i]? = some x → c + cs.length ≤ s → f y = (f x).take c ++ cs ++ (f x).drop (c + cs.length) →
    (l.flatMap f).take (i * s + c) ++ cs ++ (l.flatMap f).drop (i * s + c + cs.length) = (l.set i y).flatMap f
  | [], _, i, c, x, y, cs, hx, _, _ => by simp at hx
  | z :: l, h, 0, c, x, y, cs, hx, hc, hy => by
    simp at hx; subst hx
    have hz := h z (by simp)
    simp only [List.flatMap_cons, Nat.zero_mul, Nat.zero_add, List.set_cons_zero, hy]
    rw [List.take_append_of_le_length (by omega), List.drop_append_of_le_length (by omega)]
    simp only [List.append_assoc]
  | z :: l, h, i + 1, c, x, y, cs, hx, hc, hy => by
    have hz := h z (by simp)
    have ih := rows_put l (fun u hu => h u (by simp [hu])) i c x y cs (by simpa using hx) hc hy
    simp only [List.flatMap_cons, List.set_cons_succ, ← ih]
    rw [show (i + 1) * s + c = (f z).length + (i * s + c) by rw [hz, Nat.add_mul]; omega, List.take_length_add_append, Nat.add_assoc, List.drop_length_add_append]
    simp only [List.append_assoc, Nat.add_assoc]
theorem rows_drop : ∀ (l : List α) (_ : ∀ x ∈ l, (f x).length = s) (i : Nat), (l.flatMap f).drop (i * s) = (l.drop i).flatMap f
  | l, _, 0 => by simp
  | [], _, i + 1 => by simp
  | x :: l, h, i + 1 => by
    have hx := h x (by simp)
    simp only [List.flatMap_cons, List.drop_succ_cons]
    rw [show (i + 1) * s = (f x).length + i * s by rw [hx, Nat.add_mul]; omega, List.drop_length_add_append]
    exact rows_drop l (fun z hz => h z (by simp [hz])) i
theorem rows_take : ∀ (l : List α) (_ : ∀ x ∈ l, (f x).length = s) (i : Nat), (l.flatMap f).take (i * s) = (l.take i).flatMap f
  | l, _, 0 => by simp
  | [], _, i + 1 => by simp
  | x :: l, h, i + 1 => by
    have hx := h x (by simp)
    simp only [List.flatMap_cons, List.take_succ_cons]
    rw [show (i + 1) * s = (f x).length + i * s by rw [hx, Nat.add_mul]; omega, List.take_length_add_append]
    rw [rows_take l (fun z hz => h z (by simp [hz])) i]
/-- Of an element's cells some are written. -/
theorem Owns.put {w : World} {g o n cap : Nat} {l : List α} (h : Owns w s (.slice (some ⟨g, o, none⟩) n cap) n (l.flatMap f)) (hl : ∀ x ∈ l, (f x).length = s) (hn : l.length = n) (i c : Nat) (x y : α) (cs : List Value)
    (hx : l[i]? = some x) (hc : c + cs.length ≤ s) (hy : f y = (f x).take c ++ cs ++ (f x).drop (c + cs.length)) :
    Owns (w.setCells g (o + (i * s + c)) cs) s (.slice (some ⟨g, o, none⟩) n cap) n ((l.set i y).flatMap f) := by
  have hi := (List.getElem?_eq_some_iff.1 hx).1
  have h2 : (i + 1) * s ≤ n * s := Nat.mul_le_mul_right s (by omega)
  rw [Nat.add_mul, Nat.one_mul] at h2
  rw [← rows_put l hl i c x y cs hx hc hy]
  exact h.set (i * s + c) cs (by omega)
/-- An element's cells are there, and may be written. -/
theorem Owns.elem {w : World} {g o n cap : Nat} {l : List α} (h : Owns w s (.slice (some ⟨g, o, none⟩) n cap) n (l.flatMap f)) (hl : ∀ x ∈ l, (f x).length = s) (i : Nat) (x : α) (hx : l[i]? = some x) :
    (∀ (j : Nat) (u : Value), (f x)[j]? = some u → w.cell? ⟨g, o + i * s + j, none⟩ = some u) ∧ (∀ j, j < s → (w.cell? ⟨g, o + i * s + j, none⟩).isSome = true) ∧ ∀ j, j < s → w.frozen? ⟨g, o + i * s + j, none⟩ = false := by
  have hn : l.length = n ∨ s = 0 := by
    have := h.1
    rw [rows_len l hl] at this
    rcases Nat.eq_zero_or_pos s with h0 | h0
    · exact .inr h0
    · exact .inl (Nat.eq_of_mul_eq_mul_right h0 this)
  have hi := (List.getElem?_eq_some_iff.1 hx).1
  have hfx := hl x (List.mem_of_getElem? hx)
  rcases h.2 with ⟨hv, _⟩ | ⟨g', o', c, hv, g1, g2, g3, g4, g5⟩
  · simp at hv
  · simp only [Value.slice.injEq, Option.some.injEq, Addr.mk.injEq, true_and, and_true] at hv
    obtain ⟨⟨rfl, rfl⟩, rfl⟩ := hv
    refine ⟨fun j u hj => ?_, fun j hj => ?_, fun j hj => ?_⟩
    · have hjl := (List.getElem?_eq_some_iff.1 hj).1
      rw [Nat.add_assoc]
      exact g4 _ u (by rw [rows_at l hl i j x hx (by omega)]; exact hj)
    all_goals
      have h2 : (i + 1) * s ≤ cap * s := Nat.mul_le_mul_right s (by omega)
      rw [Nat.add_mul, Nat.one_mul] at h2
      have := g5 (i * s + j) (by omega)
      rw [← Nat.add_assoc] at this
      first | exact this.1 | exact this.2
end
end Go.Cat
