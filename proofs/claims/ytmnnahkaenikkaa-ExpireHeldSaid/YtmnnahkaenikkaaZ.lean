/- A region that draws its order, whose last operation (number z: all others stand before it) may turn what the others read. No program is named. -/
import Derived.Test.YtmnnahkaenikkaaT
namespace Go.Cat
open Go.RowKit
section
variable {P : Program} {ops : Array Oper} {Q : Exit → Act → World → Prop} {md : Region.Mode}
/-- Whatever order is picked from here on, and S holds behind every operation but number z. -/
def wpAnyZ (P : Program) (md : Region.Mode) (ops : Array Oper) (Q : Exit → Act → World → Prop) (z : Nat) (S : World → Prop) : Nat → Array Bool → Act → World → Prop
  | 0, listed, a, w => Region.ready md ops listed = [] ∧ Q .normal a w
  | fuel + 1, listed, a, w =>
    (Region.ready md ops listed = [] → Q .normal a w) ∧
    ∀ i ∈ Region.ready md ops listed, wpOp P ops Q i (fun a' w' => (i ≠ z → S w') ∧ wpAnyZ P md ops Q z S fuel (listed.setIfInBounds i true) a' w') a w
theorem wpAny_of_z {z : Nat} {S : World → Prop} : ∀ (fuel : Nat) (listed : Array Bool) (a : Act) (w : World), wpAnyZ P md ops Q z S fuel listed a w → wpAny P md ops Q fuel listed a w
  | 0, _, _, _, h => h
  | fuel + 1, _, _, _, h => ⟨h.1, fun i hi => wpOp_mono (fun a' w' h' => wpAny_of_z fuel _ a' w' h'.2) (h.2 i hi)⟩
theorem wpAnyZ_mono {z : Nat} {S S' : World → Prop} (hS : ∀ w, S' w → S w) : ∀ (fuel : Nat) (listed : Array Bool) (a : Act) (w : World), wpAnyZ P md ops Q z S' fuel listed a w → wpAnyZ P md ops Q z S fuel listed a w
  | 0, _, _, _, h => h
  | fuel + 1, _, _, _, h => ⟨h.1, fun i hi => wpOp_mono (fun a' w' h' => ⟨fun hne => hS _ (h'.1 hne), wpAnyZ_mono hS fuel _ a' w' h'.2⟩) (h.2 i hi)⟩
/-- Those that wait for number i, directly or through others. -/
def after_ (md : Region.Mode) (ops : Array Oper) (i : Nat) : List Nat :=
  (List.range ops.size).foldl (fun D j => match ops[j]? with
    | some o => if o.after.any (fun e => Region.binds md e && (e.on == i || D.contains e.on)) then j :: D else D
    | none => D) []
def waits (md : Region.Mode) (ops : Array Oper) (listed : Array Bool) (z i : Nat) : Bool :=
  (after_ md ops i).contains z && (after_ md ops i).all fun d => !listed.getD d true && (match ops[d]? with
    | some o => o.after.any (fun e => Region.binds md e && (e.on == i || (after_ md ops i).contains e.on))
    | none => false)
theorem wpAnyZ_first {z i : Nat} {S : World → Prop} {oi : Oper} {v : Value} {D : List Nat} (hi : ops[i]? = some oi) (hz : z ∈ D)
    (hD : ∀ d ∈ D, ∃ o : Oper, ops[d]? = some o ∧ ∃ e ∈ o.after, Region.binds md e = true ∧ (e.on = i ∨ e.on ∈ D)) (hsel : ∀ (j : Nat) (o : Oper) cs b, ops[j]? = some o → o.op ≠ .select cs b)
    (hQ : ∀ c a w, Q (.panic c) (a.put oi.dst v) w → Q (.panic c) a w) :
    ∀ (fuel : Nat) (listed : Array Bool) (a : Act) (w : World), (∀ d ∈ D, listed.getD d true = false) →
      (∀ j oj, ops[j]? = some oj → j ≠ i → listed.getD j true = false → (∀ e ∈ oj.after, Region.binds md e = true → e.on ≠ i) → oi.apart ops oj = true) →
      i ∈ Region.ready md ops listed → YieldsIf P ops S oi v a → S w →
      wpAnyZ P md ops Q z S fuel (listed.setIfInBounds i true) (a.put oi.dst v) w → wpAnyZ P md ops Q z S (fuel + 1) listed a w := by
  intro fuel
  induction fuel with
  | zero =>
    intro listed a w _ _ hr hy hS H
    refine ⟨fun h => (by rw [h] at hr; cases hr), fun j hj => ?_⟩
    by_cases hji : j = i
    · subst hji; exact hy.wpOp hi hS ⟨fun _ => hS, H⟩
    · have := ready_mono hj hji
      rw [H.1] at this
      cases this
  | succ fuel ih =>
    intro listed a w hun hfree hr hy hS H
    refine ⟨fun h => (by rw [h] at hr; cases hr), fun j hj => ?_⟩
    by_cases hji : j = i
    · subst hji; exact hy.wpOp hi hS ⟨fun _ => hS, H⟩
    · have h1 := H.2 j (ready_mono hj hji)
      obtain ⟨hjun, oj, hoj, hall⟩ := mem_ready.1 hj
      have hoff : ∀ k, listed.getD k true = false → ∀ e ∈ oj.after, Region.binds md e = true → e.on ≠ k := fun k h0 e he hb heq => by
        have h1 := hall e he hb
        rw [heq] at h1
        rcases Nat.lt_or_ge k listed.size with h' | h'
        · simp [h'] at h0 h1; rw [h0] at h1; cases h1
        · simp [Array.getElem?_eq_none h'] at h1
      have hnot := hoff i (mem_ready.1 hr).1
      have hjD : j ∉ D := fun h => by
        obtain ⟨o, ho, e, he, hb, h2⟩ := hD j h
        rw [hoj] at ho
        cases ho
        rcases h2 with h2 | h2
        · exact hnot e he hb h2
        · exact hoff e.on (hun _ h2) e he hb rfl
      have hjz : j ≠ z := fun h => hjD (h ▸ hz)
      have h2 := wpOp_putIf hoj (hfree j oj hoj hji hjun hnot) (fun cs b => hsel i oi cs b hi) (fun cs b => hsel j oj cs b hoj) hQ hy h1
      have hfree' : ∀ k ok, ops[k]? = some ok → k ≠ i → (listed.setIfInBounds j true).getD k true = false →
          (∀ e ∈ ok.after, Region.binds md e = true → e.on ≠ i) → oi.apart ops ok = true := fun k ok hk hki hun hno => by
        refine hfree k ok hk hki ?_ hno
        by_cases hjk : j = k
        · subst hjk; exact hjun
        · rw [getD_set_ne true hjk] at hun; exact hun
      refine wpOp_mono (fun a' w' h3 => ⟨fun _ => h3.2.1 hjz, ih (listed.setIfInBounds j true) a' w' (fun d hd => ?_) hfree' (ready_mono hr (Ne.symm hji)) h3.1 (h3.2.1 hjz) ?_⟩) h2
      · rw [getD_set_ne true (show ¬ j = d from fun e => hjD (by rw [e]; exact hd))]
        exact hun d hd
      · rw [Array.setIfInBounds_comm _ _ hji]
        exact h3.2.2
theorem waits_spec {listed : Array Bool} {z i : Nat} (h : waits md ops listed z i = true) : z ∈ after_ md ops i ∧ (∀ d ∈ after_ md ops i, ∃ o : Oper, ops[d]? = some o ∧ ∃ e ∈ o.after, Region.binds md e = true ∧ (e.on = i ∨ e.on ∈ after_ md ops i)) ∧ ∀ d ∈ after_ md ops i, listed.getD d true = false := by
  unfold waits at h
  simp only [Bool.and_eq_true, List.all_eq_true, List.contains_iff_mem] at h
  obtain ⟨h1, h2⟩ := h
  refine ⟨h1, fun d hd => ?_, fun d hd => ?_⟩
  · have h3 := (h2 d hd).2
    cases ho : ops[d]? with
    | none => rw [ho] at h3; cases h3
    | some o =>
      rw [ho] at h3
      simp only [Array.any_eq_true, Bool.and_eq_true, Bool.or_eq_true, beq_iff_eq, List.contains_iff_mem] at h3
      obtain ⟨k, hk, h4, h5⟩ := h3
      exact ⟨o, rfl, _, Array.getElem_mem hk, h4, h5⟩
  · simpa using (h2 d hd).1
/-- Whatever order is picked from here on; up to number z only blocks of T may turn. -/
def wpZ (P : Program) (ops : Array Oper) (Q : Exit → Act → World → Prop) (z : Nat) (T : Nat → Prop) (fuel : Nat) (listed : Array Bool) (a : Act) (w : World) : Prop :=
  wpAnyZ P .any ops Q z (Chg T w) fuel listed a w
def okZ (ops : Array Oper) (listed : Array Bool) (z i : Nat) : Bool := waits .any ops listed z i && okTake ops listed i
variable {z : Nat} {T : Nat → Prop} {fuel : Nat} {listed : Array Bool} {a : Act} {w : World} {l : List Oper}
theorem wpZ.begin {id : Nat} (z : Nat) (T : Nat → Prop) (n : Nat) (hm : P.follows .mixedOrders = true) (hn : l.length = n) (h : wpZ P l.toArray Q z T n (Array.replicate n false) a w.drew) : (Code.region id l.toArray true).wp P Q a w := by
  subst hn
  exact wp_region_any hm (wpAny_of_z _ _ _ _ (by simpa [wpZ] using h))
theorem wpZ.take (i : Nat) {oi : Oper} {rest : List Oper} {v : Value} (hi : l.drop i = oi :: rest) (hok : okZ l.toArray listed z i = true)
    (hQ : ∀ c a w, Q (.panic c) (a.put oi.dst v) w → Q (.panic c) a w) (hw : Region.wanted oi (yielded l.toArray a.tmps) = true) (hy : ∀ w', Chg T w w' → (execOp a.eval oi).run P w' = .ok (.value v) w')
    (h : wpZ P l.toArray Q z T fuel (listed.setIfInBounds i true) (a.put oi.dst v) w) : wpZ P l.toArray Q z T (fuel + 1) listed a w := by
  simp only [okZ, okTake, Bool.and_eq_true] at hok
  obtain ⟨z1, z2, z3⟩ := waits_spec hok.1
  exact wpAnyZ_first (drop_at hi) z1 z2 (Region.noSelect_spec hok.2.1.1) hQ fuel listed a w z3 (Region.free_spec (drop_at hi) hok.2.1.2) (by simpa using hok.2.2) (.inl ⟨hw, hy⟩) (Chg.refl _ _) h
theorem wpZ.skip (i : Nat) {oi : Oper} {rest : List Oper} (hi : l.drop i = oi :: rest) (hok : okZ l.toArray listed z i = true)
    (hQ : ∀ c a w, Q (.panic c) (a.put oi.dst undef) w → Q (.panic c) a w) (hw : Region.wanted oi (yielded l.toArray a.tmps) = false)
    (h : wpZ P l.toArray Q z T fuel (listed.setIfInBounds i true) (a.put oi.dst undef) w) : wpZ P l.toArray Q z T (fuel + 1) listed a w := by
  simp only [okZ, okTake, Bool.and_eq_true] at hok
  obtain ⟨z1, z2, z3⟩ := waits_spec hok.1
  exact wpAnyZ_first (drop_at hi) z1 z2 (Region.noSelect_spec hok.2.1.1) hQ fuel listed a w z3 (Region.free_spec (drop_at hi) hok.2.1.2) (by simpa using hok.2.2) (.inr ⟨hw, rfl⟩) (Chg.refl _ _) h
theorem wpZ.ld (i : Nat) {oi : Oper} {rest : List Oper} (hi : l.drop i = oi :: rest) (hok : okZ l.toArray listed z i = true) (hQ : ∀ (v : Value) c a w, Q (.panic c) (a.put oi.dst v) w → Q (.panic c) a w)
    (hw : Region.wanted oi (yielded l.toArray a.tmps) = true) (t : TypeId) (x : Operand) (ho : oi.op = .load t x) (ht : oneT P t = true) (p : Addr) (hx : a.eval x = .pointer (some p)) (v : Value) (hc : w.cell? p = some v) (hs : ¬ T p.block)
    (h : wpZ P l.toArray Q z T fuel (listed.setIfInBounds i true) (a.put oi.dst v) w) : wpZ P l.toArray Q z T (fuel + 1) listed a w :=
  wpZ.take i hi hok (hQ v) hw (fun w' hw' => exec_load t x _ _ ho hx (run_loadAt_one w' t ht p v (hw'.cell hc hs))) h
theorem wpZ.call (i : Nat) {oi : Oper} {rest : List Oper} (hi : l.drop i = oi :: rest) (hr : Region.ready .any l.toArray listed = [i])
    (hw : Region.wanted oi (yielded l.toArray a.tmps) = true)
    (h : ∀ K : Act → World → Prop, (∀ a' w', Chg T w w' → wpZ P l.toArray Q z T fuel (listed.setIfInBounds i true) a' w' → K a' w') → Oper.wp P oi a w K Q) : wpZ P l.toArray Q z T (fuel + 1) listed a w := by
  refine ⟨fun h0 => (by rw [h0] at hr; cases hr), fun j hj => ?_⟩
  rw [hr] at hj
  obtain rfl : j = i := by simpa using hj
  unfold wpOp
  simp only [drop_at hi, hw, if_true]
  exact .inl (h _ fun a' w' hc h' => ⟨fun _ => hc, wpAnyZ_mono (fun w'' h'' => hc.trans h'') _ _ _ _ h'⟩)
theorem wpZ.last {oi : Oper} {rest : List Oper} (hi : l.drop z = oi :: rest) (hr : Region.ready .any l.toArray listed = [z]) (hd : Region.ready .any l.toArray (listed.setIfInBounds z true) = [])
    (hw : Region.wanted oi (yielded l.toArray a.tmps) = true)
    (h : ∀ K : Act → World → Prop, (∀ a' w', Q .normal a' w' → K a' w') → Oper.wp P oi a w K Q) : wpZ P l.toArray Q z T (fuel + 1) listed a w := by
  refine ⟨fun h0 => (by rw [h0] at hr; cases hr), fun j hj => ?_⟩
  rw [hr] at hj
  obtain rfl : j = z := by simpa using hj
  unfold wpOp
  simp only [drop_at hi, hw, if_true]
  refine .inl (h _ fun a' w' h' => ⟨fun hne => absurd rfl hne, ?_⟩)
  cases fuel with
  | zero => exact ⟨hd, h'⟩
  | succ n => exact ⟨fun _ => h', by rw [hd]; simp⟩
/-- The last one is a store whose run is known. -/
theorem wpZ.lastR {oi : Oper} {rest : List Oper} (hi : l.drop z = oi :: rest) (hr : Region.ready .any l.toArray listed = [z]) (hd : Region.ready .any l.toArray (listed.setIfInBounds z true) = [])
    (hw : Region.wanted oi (yielded l.toArray a.tmps) = true) (t : TypeId) (x y : Operand) (ho : oi.op = .store t x y) (p v : Value) (w' : World) (hx : a.eval x = p) (hy : a.eval y = v) (hs : (Instr.storeAt t p v).run P w = .ok () w')
    (h : Q .normal (a.put oi.dst undef) w') : wpZ P l.toArray Q z T (fuel + 1) listed a w :=
  wpZ.last hi hr hd hw fun K hK => wp_skipped w' (exec_store t x y _ _ _ ho hx hy hs) (hK _ _ h)
/-- The last one is a store of one cell. -/
theorem wpZ.last1 {oi : Oper} {rest : List Oper} (hi : l.drop z = oi :: rest) (hr : Region.ready .any l.toArray listed = [z]) (hd : Region.ready .any l.toArray (listed.setIfInBounds z true) = [])
    (hw : Region.wanted oi (yielded l.toArray a.tmps) = true) (t : TypeId) (x y : Operand) (ho : oi.op = .store t x y) (ht : (P.info? t).map (·.size) = some 1) (p : Addr) (hx : a.eval x = .pointer (some p)) (v : Value) (hy : a.eval y = v)
    (u : Value) (hc : w.cell? p = some u) (hf : w.frozen? p = false) (h1 : v.oneCell' = true)
    (h : Q .normal (a.put oi.dst undef) (w.setCell p v)) : wpZ P l.toArray Q z T (fuel + 1) listed a w :=
  wpZ.lastR hi hr hd hw t x y ho _ v _ hx hy (run_storeAt_one w t ht p u v hc hf h1) h
end
end Go.Cat
