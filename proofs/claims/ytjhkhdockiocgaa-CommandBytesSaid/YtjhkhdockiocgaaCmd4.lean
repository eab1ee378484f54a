/- Contracts of package command: a coder that writes: fields. -/
import Derived.Test.YtjhkhdockiocgaaCmd3
namespace Go.Proofs.Ytjhkhdockiocgaa
open Go.RowKit Go.Cat

/-- A command; its points lie behind pv. -/
structure Cmd where
  kind : Int
  tenant : List UInt8
  series : List UInt8
  name : List UInt8
  pv : Value
  rlo : Int
  rhi : Int
  praw : Int
  pmid : Int
  plong : Int
  hname : List UInt8
  hser : List UInt8
  hlo : Int
  hhi : Int
  bytes : Int
  count : Int
  at_ : Int
def Cmd.cells (x : Cmd) : List Value := [.int .i64 x.kind, .string ⟨x.tenant.toArray⟩, .string ⟨x.series.toArray⟩, .string ⟨x.name.toArray⟩, x.pv, .int .i64 x.rlo, .int .i64 x.rhi, .int .i64 x.praw, .int .i64 x.pmid, .int .i64 x.plong,
  .string ⟨x.hname.toArray⟩, .string ⟨x.hser.toArray⟩, .int .i64 x.hlo, .int .i64 x.hhi, .int .i64 x.bytes, .int .i64 x.count, .int .i64 x.at_]
/-- What its fields do to bytes and error. -/
def Cmd.run (x : Cmd) (ps : List Pnt) (st : List UInt8 × Int) : List UInt8 × Int :=
  if x.kind = 0 ∨ x.kind = 1 then [x.bytes, x.count].foldl istep (tstep st x.tenant)
  else if x.kind = 2 then tstep st x.tenant
  else if x.kind = 3 then pstep ([x.tenant, x.series].foldl tstep st) ps
  else if x.kind = 4 then [x.praw, x.pmid, x.plong].foldl istep (tstep st x.tenant)
  else if x.kind = 5 then [x.hlo, x.hhi].foldl istep ([x.tenant, x.hname, x.hser].foldl tstep st)
  else if x.kind = 6 then [x.tenant, x.name].foldl tstep st
  else if x.kind = 7 then [x.rlo, x.rhi].foldl istep ([x.tenant, x.series].foldl tstep st)
  else if x.kind = 8 then istep st x.at_
  else if x.kind = 9 then istep st x.bytes
  else st
theorem reads_lit (w : World) (T : TypeId) (cs : List Value) (n : Nat) (hn : n = cs.length) (hm : n ≤ 1000) : Reads (w.alloc (.cells cs.toArray T)) 1 (.slice (some ⟨w.heap.size, 0, none⟩) n n) cs.length cs := by
  subst hn
  refine ⟨by simp, .inr ⟨_, 0, _, rfl, Nat.le_refl _, by simp only [maxLen]; omega, by simp, fun j u hj => ?_⟩⟩
  rw [Nat.zero_add, World.cell?_alloc_new]
  simpa using hj
theorem cod_next {w0 w W W1 W2 : World} {S : Nat → Prop} {c b : Nat} {l : List UInt8} {e : Int} (hS : ∀ k, S k → w0.heap.size ≤ k ∧ k < w.heap.size ∧ k ≠ c) (hcl : c < w.heap.size) (h0 : w0.heap.size ≤ w.heap.size) (G : Chg (SC S c) w W) (cA : Chg (fun _ => False) W W1)
    (h : CodS w0 W2 (ext (ext S w W) W1 W2) c b l e) (k : Chg (SC (ext S w W) c) W1 W2) : CodS w0 W2 (ext S w W2) c b l e ∧ Chg (SC S c) w W2 := by
  have z1 := G.size
  have z2 := cA.size
  have z3 := k.size
  refine ⟨h.grow (fun q hq => ?_) (fun q hq => ?_), (G.trans' cA (fun _ _ h => h.elim)).trans' k (fun i hi hs => ?_)⟩
  · rcases hq with (hq | hq) | hq
    · exact .inl hq
    · exact .inr ⟨hq.1, by omega⟩
    · exact .inr ⟨by omega, hq.2⟩
  · rcases hq with hq | hq
    · have := hS q hq; omega
    · omega
  · rcases hs with hs | hs
    · exact .inl (ext_old hs hi)
    · exact .inr hs
theorem new_not {w W : World} {S : Nat → Prop} {c : Nat} (hS : ∀ k, S k → k < w.heap.size) (hcl : c < w.heap.size) (z : w.heap.size ≤ W.heap.size) : ¬ SC (ext S w W) c W.heap.size := fun h => by
  rcases h with (h | h) | h
  · have := hS _ h; omega
  · omega
  · omega
theorem cell_cmd {w : World} {B : Nat} {x : Cmd} {T : TypeId} (h : w.heap[B]? = some (.cells x.cells.toArray T (0, 0))) (i : Nat) (v : Value) (hv : x.cells[i]? = some v) : w.cell? ⟨B, i, none⟩ = some v := by
  rw [cell_of_heap h]; simpa using hv

set_option maxRecDepth 100000 in
set_option maxHeartbeats 1000000 in
theorem fields_0 (w0 w : World) (Sw : Nat → Prop) (c b : Nat) (st : List UInt8 × Int) (x : Cmd) (ps : List Pnt) (B : Nat) (T : TypeId) (h : CodS w0 w Sw c b st.1 st.2) (hB : w0.heap[B]? = some (.cells x.cells.toArray T (0, 0))) (hv : Reads w0 2 x.pv ps.length (ps.flatMap Pnt.cells)) (hl : st.1.length ≤ 1000000) (hk : x.kind = 0) :
    Calls Try.prog 66 #[.pointer (some ⟨c, 0, none⟩), .pointer (some ⟨B, 0, none⟩)] w fun e' w' => e' = .returned (.tuple #[]) ∧ CodS w0 w' (ext Sw w w') c b (x.run ps st).1 (x.run ps st).2 ∧ Chg (SC Sw c) w w' := by
  have hS : Hid (∀ k, Sw k → w0.heap.size ≤ k ∧ k < w.heap.size ∧ k ≠ c) := by obtain ⟨_, _, _, h3, _, _⟩ := h; exact h3
  have hcl : c < w.heap.size := by obtain ⟨_, h1, _⟩ := h; exact (Array.getElem?_eq_some_iff.1 h1).1
  have cW0 : Chg (fun _ => False) w0 w := by obtain ⟨_, _, _, _, _, h5⟩ := h; exact h5
  have h00 := cW0.size
  have a0 : w.cell? ⟨B, 0, none⟩ = some (.int .i64 0) := cW0.cell (cell_cmd hB 0 _ (by rw [← hk]; rfl)) (fun h => h)
  have HK := Lib.hid hk
  have HB := Lib.hid hB
  have HV := Lib.hid hv
  have D0 : Hid (CodS w0 w (ext Sw w w) c b st.1 st.2) := h.grow (fun k hk => .inl hk) (fun k hk => by
    rcases hk with hk | hk
    · exact hS.out k hk
    · omega)
  have G0 : Hid (Chg (SC Sw c) w w) := Chg.refl _ _
  clear h hB hv hk
  go_enter Try.func66, Try.ntmps66
  go_wp2_with fail
  clear a0
  refine (ctext_any w0 w (ext Sw w w) c b (st).1 (st).2 x.tenant B 1 D0.out (cell_cmd HB.out 1 _ rfl) (by omega)).mono ?_
  rintro e' w1 ⟨rfl, h1, c1⟩
  have cA0 : Chg (fun _ => False) w w := Chg.refl _ _
  obtain ⟨d1, g1⟩ := cod_next hS.out hcl h00 G0.out cA0 h1 c1
  have D1 : Hid (CodS w0 w1 (ext Sw w w1) c b (tstep (st) x.tenant).1 (tstep (st) x.tenant).2) := d1
  have G1 := Lib.hid g1
  clear d1 g1 h1 c1 cA0
  have LL1 : (tstep (st) x.tenant).1.length ≤ st.1.length + 3000 := Nat.le_trans (tstep_len _ _) (by omega)
  go_wp2_with fail
  refine wpT.begin (fun k => SC (ext Sw w w1) c k ∨ w1.heap.size ≤ k) 9 (by kernel_rfl) rfl ?_
  refine wpT.take 0 rfl (by kernel_rfl) (fun _ _ _ h => h) rfl (fun w' hw' => by go_simp <;> with_reducible rfl) ?_
  simp only [Act.put, List.setIfInBounds_toArray, List.set_cons_zero, List.set_cons_succ]
  refine wpT.take 1 rfl (by kernel_rfl) (fun _ _ _ h => h) rfl (fun w' hw' => by go_simp <;> with_reducible rfl) ?_
  simp only [Act.put, List.setIfInBounds_toArray, List.set_cons_zero, List.set_cons_succ]
  refine wpT.take 2 rfl (by kernel_rfl) (fun _ _ _ h => h) rfl (fun w' hw' => by go_simp <;> with_reducible rfl) ?_
  simp only [Act.put, List.setIfInBounds_toArray, List.set_cons_zero, List.set_cons_succ]
  refine wpT.take 3 rfl (by kernel_rfl) (fun _ _ _ h => h) rfl (fun w' hw' => by go_simp <;> with_reducible rfl) ?_
  simp only [Act.put, List.setIfInBounds_toArray, List.set_cons_zero, List.set_cons_succ]
  refine wpT.take 4 rfl (by kernel_rfl) (fun _ _ _ h => h) rfl (fun w' hw' => by go_simp <;> with_reducible rfl) ?_
  simp only [Act.put, List.setIfInBounds_toArray, List.set_cons_zero, List.set_cons_succ]
  refine wpT.take 5 rfl (by kernel_rfl) (fun _ _ _ h => h) rfl (fun w' hw' => by go_simp <;> with_reducible rfl) ?_
  simp only [Act.put, List.setIfInBounds_toArray, List.set_cons_zero, List.set_cons_succ]
  refine wpT.take 6 rfl (by kernel_rfl) (fun _ _ _ h => h) rfl (fun w' hw' => by go_simp <;> with_reducible rfl) ?_
  simp only [Act.put, List.setIfInBounds_toArray, List.set_cons_zero, List.set_cons_succ]
  refine wpT.call 7 rfl (by kernel_rfl) rfl (fun K hK => ?_)
  go_wp2_with fail
  refine hK _ _ ((Chg.refl _ _).alloc _) ?_
  clear hK
  try (simp only [Act.put, List.setIfInBounds_toArray, List.set_cons_zero, List.set_cons_succ])
  have cA1 : Chg (fun _ => False) w1 (w1.drew.alloc (.cells #[.pointer (some ⟨B, 14, none⟩), .pointer (some ⟨B, 15, none⟩)] 172)) := ((Chg.refl _ w1).drew).alloc _
  have hR1 := reads_lit w1.drew 172 [.pointer (some ⟨B, 14, none⟩), .pointer (some ⟨B, 15, none⟩)] 2 rfl (by omega)
  refine wpT.call 8 rfl (by kernel_rfl) rfl (fun K hK => ?_)
  go_wp2_with fail
  refine (ints_any w0 _ (ext Sw w w1) c b (tstep (st) x.tenant).1 (tstep (st) x.tenant).2 _ B [(14, x.bytes), (15, x.count)] (D1.out.same cA1) hR1 (fun q hq => ?_) (fun p hp => ?_) (by simp) (by have := LL1; omega)).mono ?_
  · have hq' : w1.heap.size = q := by simpa [Value.ownBlock] using hq
    subst hq'
    exact new_not (fun k hk => (hS.out k hk).2.1) hcl G1.out.size
  · simp only [List.mem_cons, List.not_mem_nil, or_false] at hp
    rcases hp with rfl | rfl
    · exact cell_cmd HB.out 14 _ rfl
    · exact cell_cmd HB.out 15 _ rfl
  rintro e' w2 ⟨rfl, h2, c2⟩
  refine hK _ _ (c2.mono (fun k _ h => .inl h)) ?_
  clear hK
  refine wpT.done (by kernel_rfl) ?_
  obtain ⟨d2, g2⟩ := cod_next hS.out hcl h00 G1.out cA1 h2 c2
  have D2 : Hid (CodS w0 w2 (ext Sw w w2) c b ([x.bytes, x.count].foldl istep (tstep (st) x.tenant)).1 ([x.bytes, x.count].foldl istep (tstep (st) x.tenant)).2) := d2
  have G2 := Lib.hid g2
  clear d2 g2 h2 c2 cA1
  go_wp2_with fail
  go_end0
  have hrun : x.run ps st = [x.bytes, x.count].foldl istep (tstep (st) x.tenant) := by
    unfold Cmd.run
    rw [HK.out]
    simp
  rw [hrun]
  exact ⟨rfl, D2.out, G2.out⟩

set_option maxRecDepth 100000 in
set_option maxHeartbeats 1000000 in
theorem fields_1 (w0 w : World) (Sw : Nat → Prop) (c b : Nat) (st : List UInt8 × Int) (x : Cmd) (ps : List Pnt) (B : Nat) (T : TypeId) (h : CodS w0 w Sw c b st.1 st.2) (hB : w0.heap[B]? = some (.cells x.cells.toArray T (0, 0))) (hv : Reads w0 2 x.pv ps.length (ps.flatMap Pnt.cells)) (hl : st.1.length ≤ 1000000) (hk : x.kind = 1) :
    Calls Try.prog 66 #[.pointer (some ⟨c, 0, none⟩), .pointer (some ⟨B, 0, none⟩)] w fun e' w' => e' = .returned (.tuple #[]) ∧ CodS w0 w' (ext Sw w w') c b (x.run ps st).1 (x.run ps st).2 ∧ Chg (SC Sw c) w w' := by
  have hS : Hid (∀ k, Sw k → w0.heap.size ≤ k ∧ k < w.heap.size ∧ k ≠ c) := by obtain ⟨_, _, _, h3, _, _⟩ := h; exact h3
  have hcl : c < w.heap.size := by obtain ⟨_, h1, _⟩ := h; exact (Array.getElem?_eq_some_iff.1 h1).1
  have cW0 : Chg (fun _ => False) w0 w := by obtain ⟨_, _, _, _, _, h5⟩ := h; exact h5
  have h00 := cW0.size
  have a0 : w.cell? ⟨B, 0, none⟩ = some (.int .i64 1) := cW0.cell (cell_cmd hB 0 _ (by rw [← hk]; rfl)) (fun h => h)
  have HK := Lib.hid hk
  have HB := Lib.hid hB
  have HV := Lib.hid hv
  have D0 : Hid (CodS w0 w (ext Sw w w) c b st.1 st.2) := h.grow (fun k hk => .inl hk) (fun k hk => by
    rcases hk with hk | hk
    · exact hS.out k hk
    · omega)
  have G0 : Hid (Chg (SC Sw c) w w) := Chg.refl _ _
  clear h hB hv hk
  go_enter Try.func66, Try.ntmps66
  go_wp2_with fail
  clear a0
  refine (ctext_any w0 w (ext Sw w w) c b (st).1 (st).2 x.tenant B 1 D0.out (cell_cmd HB.out 1 _ rfl) (by omega)).mono ?_
  rintro e' w1 ⟨rfl, h1, c1⟩
  have cA0 : Chg (fun _ => False) w w := Chg.refl _ _
  obtain ⟨d1, g1⟩ := cod_next hS.out hcl h00 G0.out cA0 h1 c1
  have D1 : Hid (CodS w0 w1 (ext Sw w w1) c b (tstep (st) x.tenant).1 (tstep (st) x.tenant).2) := d1
  have G1 := Lib.hid g1
  clear d1 g1 h1 c1 cA0
  have LL1 : (tstep (st) x.tenant).1.length ≤ st.1.length + 3000 := Nat.le_trans (tstep_len _ _) (by omega)
  go_wp2_with fail
  refine wpT.begin (fun k => SC (ext Sw w w1) c k ∨ w1.heap.size ≤ k) 9 (by kernel_rfl) rfl ?_
  refine wpT.take 0 rfl (by kernel_rfl) (fun _ _ _ h => h) rfl (fun w' hw' => by go_simp <;> with_reducible rfl) ?_
  simp only [Act.put, List.setIfInBounds_toArray, List.set_cons_zero, List.set_cons_succ]
  refine wpT.take 1 rfl (by kernel_rfl) (fun _ _ _ h => h) rfl (fun w' hw' => by go_simp <;> with_reducible rfl) ?_
  simp only [Act.put, List.setIfInBounds_toArray, List.set_cons_zero, List.set_cons_succ]
  refine wpT.take 2 rfl (by kernel_rfl) (fun _ _ _ h => h) rfl (fun w' hw' => by go_simp <;> with_reducible rfl) ?_
  simp only [Act.put, List.setIfInBounds_toArray, List.set_cons_zero, List.set_cons_succ]
  refine wpT.take 3 rfl (by kernel_rfl) (fun _ _ _ h => h) rfl (fun w' hw' => by go_simp <;> with_reducible rfl) ?_
  simp only [Act.put, List.setIfInBounds_toArray, List.set_cons_zero, List.set_cons_succ]
  refine wpT.take 4 rfl (by kernel_rfl) (fun _ _ _ h => h) rfl (fun w' hw' => by go_simp <;> with_reducible rfl) ?_
  simp only [Act.put, List.setIfInBounds_toArray, List.set_cons_zero, List.set_cons_succ]
  refine wpT.take 5 rfl (by kernel_rfl) (fun _ _ _ h => h) rfl (fun w' hw' => by go_simp <;> with_reducible rfl) ?_
  simp only [Act.put, List.setIfInBounds_toArray, List.set_cons_zero, List.set_cons_succ]
  refine wpT.take 6 rfl (by kernel_rfl) (fun _ _ _ h => h) rfl (fun w' hw' => by go_simp <;> with_reducible rfl) ?_
  simp only [Act.put, List.setIfInBounds_toArray, List.set_cons_zero, List.set_cons_succ]
  refine wpT.call 7 rfl (by kernel_rfl) rfl (fun K hK => ?_)
  go_wp2_with fail
  refine hK _ _ ((Chg.refl _ _).alloc _) ?_
  clear hK
  try (simp only [Act.put, List.setIfInBounds_toArray, List.set_cons_zero, List.set_cons_succ])
  have cA1 : Chg (fun _ => False) w1 (w1.drew.alloc (.cells #[.pointer (some ⟨B, 14, none⟩), .pointer (some ⟨B, 15, none⟩)] 172)) := ((Chg.refl _ w1).drew).alloc _
  have hR1 := reads_lit w1.drew 172 [.pointer (some ⟨B, 14, none⟩), .pointer (some ⟨B, 15, none⟩)] 2 rfl (by omega)
  refine wpT.call 8 rfl (by kernel_rfl) rfl (fun K hK => ?_)
  go_wp2_with fail
  refine (ints_any w0 _ (ext Sw w w1) c b (tstep (st) x.tenant).1 (tstep (st) x.tenant).2 _ B [(14, x.bytes), (15, x.count)] (D1.out.same cA1) hR1 (fun q hq => ?_) (fun p hp => ?_) (by simp) (by have := LL1; omega)).mono ?_
  · have hq' : w1.heap.size = q := by simpa [Value.ownBlock] using hq
    subst hq'
    exact new_not (fun k hk => (hS.out k hk).2.1) hcl G1.out.size
  · simp only [List.mem_cons, List.not_mem_nil, or_false] at hp
    rcases hp with rfl | rfl
    · exact cell_cmd HB.out 14 _ rfl
    · exact cell_cmd HB.out 15 _ rfl
  rintro e' w2 ⟨rfl, h2, c2⟩
  refine hK _ _ (c2.mono (fun k _ h => .inl h)) ?_
  clear hK
  refine wpT.done (by kernel_rfl) ?_
  obtain ⟨d2, g2⟩ := cod_next hS.out hcl h00 G1.out cA1 h2 c2
  have D2 : Hid (CodS w0 w2 (ext Sw w w2) c b ([x.bytes, x.count].foldl istep (tstep (st) x.tenant)).1 ([x.bytes, x.count].foldl istep (tstep (st) x.tenant)).2) := d2
  have G2 := Lib.hid g2
  clear d2 g2 h2 c2 cA1
  go_wp2_with fail
  go_end0
  have hrun : x.run ps st = [x.bytes, x.count].foldl istep (tstep (st) x.tenant) := by
    unfold Cmd.run
    rw [HK.out]
    simp
  rw [hrun]
  exact ⟨rfl, D2.out, G2.out⟩

set_option maxRecDepth 100000 in
set_option maxHeartbeats 1000000 in
theorem fields_2 (w0 w : World) (Sw : Nat → Prop) (c b : Nat) (st : List UInt8 × Int) (x : Cmd) (ps : List Pnt) (B : Nat) (T : TypeId) (h : CodS w0 w Sw c b st.1 st.2) (hB : w0.heap[B]? = some (.cells x.cells.toArray T (0, 0))) (hv : Reads w0 2 x.pv ps.length (ps.flatMap Pnt.cells)) (hl : st.1.length ≤ 1000000) (hk : x.kind = 2) :
    Calls Try.prog 66 #[.pointer (some ⟨c, 0, none⟩), .pointer (some ⟨B, 0, none⟩)] w fun e' w' => e' = .returned (.tuple #[]) ∧ CodS w0 w' (ext Sw w w') c b (x.run ps st).1 (x.run ps st).2 ∧ Chg (SC Sw c) w w' := by
  have hS : Hid (∀ k, Sw k → w0.heap.size ≤ k ∧ k < w.heap.size ∧ k ≠ c) := by obtain ⟨_, _, _, h3, _, _⟩ := h; exact h3
  have hcl : c < w.heap.size := by obtain ⟨_, h1, _⟩ := h; exact (Array.getElem?_eq_some_iff.1 h1).1
  have cW0 : Chg (fun _ => False) w0 w := by obtain ⟨_, _, _, _, _, h5⟩ := h; exact h5
  have h00 := cW0.size
  have a0 : w.cell? ⟨B, 0, none⟩ = some (.int .i64 2) := cW0.cell (cell_cmd hB 0 _ (by rw [← hk]; rfl)) (fun h => h)
  have HK := Lib.hid hk
  have HB := Lib.hid hB
  have HV := Lib.hid hv
  have D0 : Hid (CodS w0 w (ext Sw w w) c b st.1 st.2) := h.grow (fun k hk => .inl hk) (fun k hk => by
    rcases hk with hk | hk
    · exact hS.out k hk
    · omega)
  have G0 : Hid (Chg (SC Sw c) w w) := Chg.refl _ _
  clear h hB hv hk
  go_enter Try.func66, Try.ntmps66
  go_wp2_with fail
  clear a0
  refine (ctext_any w0 w (ext Sw w w) c b (st).1 (st).2 x.tenant B 1 D0.out (cell_cmd HB.out 1 _ rfl) (by omega)).mono ?_
  rintro e' w1 ⟨rfl, h1, c1⟩
  have cA0 : Chg (fun _ => False) w w := Chg.refl _ _
  obtain ⟨d1, g1⟩ := cod_next hS.out hcl h00 G0.out cA0 h1 c1
  have D1 : Hid (CodS w0 w1 (ext Sw w w1) c b (tstep (st) x.tenant).1 (tstep (st) x.tenant).2) := d1
  have G1 := Lib.hid g1
  clear d1 g1 h1 c1 cA0
  go_wp2_with fail
  go_end0
  have hrun : x.run ps st = tstep (st) x.tenant := by
    unfold Cmd.run
    rw [HK.out]
    rfl
  rw [hrun]
  exact ⟨rfl, D1.out, G1.out⟩

set_option maxRecDepth 100000 in
set_option maxHeartbeats 1000000 in
theorem fields_3 (w0 w : World) (Sw : Nat → Prop) (c b : Nat) (st : List UInt8 × Int) (x : Cmd) (ps : List Pnt) (B : Nat) (T : TypeId) (h : CodS w0 w Sw c b st.1 st.2) (hB : w0.heap[B]? = some (.cells x.cells.toArray T (0, 0))) (hv : Reads w0 2 x.pv ps.length (ps.flatMap Pnt.cells)) (hl : st.1.length ≤ 1000000) (hk : x.kind = 3) :
    Calls Try.prog 66 #[.pointer (some ⟨c, 0, none⟩), .pointer (some ⟨B, 0, none⟩)] w fun e' w' => e' = .returned (.tuple #[]) ∧ CodS w0 w' (ext Sw w w') c b (x.run ps st).1 (x.run ps st).2 ∧ Chg (SC Sw c) w w' := by
  have hS : Hid (∀ k, Sw k → w0.heap.size ≤ k ∧ k < w.heap.size ∧ k ≠ c) := by obtain ⟨_, _, _, h3, _, _⟩ := h; exact h3
  have hcl : c < w.heap.size := by obtain ⟨_, h1, _⟩ := h; exact (Array.getElem?_eq_some_iff.1 h1).1
  have cW0 : Chg (fun _ => False) w0 w := by obtain ⟨_, _, _, _, _, h5⟩ := h; exact h5
  have h00 := cW0.size
  have a0 : w.cell? ⟨B, 0, none⟩ = some (.int .i64 3) := cW0.cell (cell_cmd hB 0 _ (by rw [← hk]; rfl)) (fun h => h)
  have HK := Lib.hid hk
  have HB := Lib.hid hB
  have HV := Lib.hid hv
  have D0 : Hid (CodS w0 w (ext Sw w w) c b st.1 st.2) := h.grow (fun k hk => .inl hk) (fun k hk => by
    rcases hk with hk | hk
    · exact hS.out k hk
    · omega)
  have G0 : Hid (Chg (SC Sw c) w w) := Chg.refl _ _
  clear h hB hv hk
  go_enter Try.func66, Try.ntmps66
  go_wp2_with fail
  clear a0
  refine wpT.begin (fun k => SC (ext Sw w w) c k ∨ w.heap.size ≤ k) 9 (by kernel_rfl) rfl ?_
  refine wpT.take 0 rfl (by kernel_rfl) (fun _ _ _ h => h) rfl (fun w' hw' => by go_simp <;> with_reducible rfl) ?_
  simp only [Act.put, List.setIfInBounds_toArray, List.set_cons_zero, List.set_cons_succ]
  refine wpT.take 1 rfl (by kernel_rfl) (fun _ _ _ h => h) rfl (fun w' hw' => by go_simp <;> with_reducible rfl) ?_
  simp only [Act.put, List.setIfInBounds_toArray, List.set_cons_zero, List.set_cons_succ]
  refine wpT.take 2 rfl (by kernel_rfl) (fun _ _ _ h => h) rfl (fun w' hw' => by go_simp <;> with_reducible rfl) ?_
  simp only [Act.put, List.setIfInBounds_toArray, List.set_cons_zero, List.set_cons_succ]
  refine wpT.take 3 rfl (by kernel_rfl) (fun _ _ _ h => h) rfl (fun w' hw' => by go_simp <;> with_reducible rfl) ?_
  simp only [Act.put, List.setIfInBounds_toArray, List.set_cons_zero, List.set_cons_succ]
  refine wpT.take 4 rfl (by kernel_rfl) (fun _ _ _ h => h) rfl (fun w' hw' => by go_simp <;> with_reducible rfl) ?_
  simp only [Act.put, List.setIfInBounds_toArray, List.set_cons_zero, List.set_cons_succ]
  refine wpT.take 5 rfl (by kernel_rfl) (fun _ _ _ h => h) rfl (fun w' hw' => by go_simp <;> with_reducible rfl) ?_
  simp only [Act.put, List.setIfInBounds_toArray, List.set_cons_zero, List.set_cons_succ]
  refine wpT.take 6 rfl (by kernel_rfl) (fun _ _ _ h => h) rfl (fun w' hw' => by go_simp <;> with_reducible rfl) ?_
  simp only [Act.put, List.setIfInBounds_toArray, List.set_cons_zero, List.set_cons_succ]
  refine wpT.call 7 rfl (by kernel_rfl) rfl (fun K hK => ?_)
  go_wp2_with fail
  refine hK _ _ ((Chg.refl _ _).alloc _) ?_
  clear hK
  try (simp only [Act.put, List.setIfInBounds_toArray, List.set_cons_zero, List.set_cons_succ])
  have cA0 : Chg (fun _ => False) w (w.drew.alloc (.cells #[.pointer (some ⟨B, 1, none⟩), .pointer (some ⟨B, 2, none⟩)] 170)) := ((Chg.refl _ w).drew).alloc _
  have hR0 := reads_lit w.drew 170 [.pointer (some ⟨B, 1, none⟩), .pointer (some ⟨B, 2, none⟩)] 2 rfl (by omega)
  refine wpT.call 8 rfl (by kernel_rfl) rfl (fun K hK => ?_)
  go_wp2_with fail
  refine (texts_any w0 _ (ext Sw w w) c b (st).1 (st).2 _ B [(1, x.tenant), (2, x.series)] (D0.out.same cA0) hR0 (fun q hq => ?_) (fun p hp => ?_) (by simp) (by omega)).mono ?_
  · have hq' : w.heap.size = q := by simpa [Value.ownBlock] using hq
    subst hq'
    exact new_not (fun k hk => (hS.out k hk).2.1) hcl G0.out.size
  · simp only [List.mem_cons, List.not_mem_nil, or_false] at hp
    rcases hp with rfl | rfl
    · exact cell_cmd HB.out 1 _ rfl
    · exact cell_cmd HB.out 2 _ rfl
  rintro e' w1 ⟨rfl, h1, c1⟩
  refine hK _ _ (c1.mono (fun k _ h => .inl h)) ?_
  clear hK
  refine wpT.done (by kernel_rfl) ?_
  obtain ⟨d1, g1⟩ := cod_next hS.out hcl h00 G0.out cA0 h1 c1
  have D1 : Hid (CodS w0 w1 (ext Sw w w1) c b ([x.tenant, x.series].foldl tstep (st)).1 ([x.tenant, x.series].foldl tstep (st)).2) := d1
  have G1 := Lib.hid g1
  clear d1 g1 h1 c1 cA0
  have LL1 : ([x.tenant, x.series].foldl tstep (st)).1.length ≤ st.1.length + 3000 := Nat.le_trans (foldl_len tstep tstep_len _ _) (by simp)
  go_wp2_with fail
  refine (cpoints_any w0 w1 (ext Sw w w1) c b ([x.tenant, x.series].foldl tstep (st)).1 ([x.tenant, x.series].foldl tstep (st)).2 x.pv ps B 4 D1.out (cell_cmd HB.out 4 _ rfl) HV.out (by have := LL1; omega)).mono ?_
  rintro e' w2 ⟨rfl, h2, c2⟩
  have cA1 : Chg (fun _ => False) w1 w1 := Chg.refl _ _
  obtain ⟨d2, g2⟩ := cod_next hS.out hcl h00 G1.out cA1 h2 c2
  have D2 : Hid (CodS w0 w2 (ext Sw w w2) c b (pstep ([x.tenant, x.series].foldl tstep (st)) ps).1 (pstep ([x.tenant, x.series].foldl tstep (st)) ps).2) := d2
  have G2 := Lib.hid g2
  clear d2 g2 h2 c2 cA1
  go_wp2_with fail
  go_end0
  have hrun : x.run ps st = pstep ([x.tenant, x.series].foldl tstep (st)) ps := by
    unfold Cmd.run
    rw [HK.out]
    rfl
  rw [hrun]
  exact ⟨rfl, D2.out, G2.out⟩

set_option maxRecDepth 100000 in
set_option maxHeartbeats 1000000 in
theorem fields_4 (w0 w : World) (Sw : Nat → Prop) (c b : Nat) (st : List UInt8 × Int) (x : Cmd) (ps : List Pnt) (B : Nat) (T : TypeId) (h : CodS w0 w Sw c b st.1 st.2) (hB : w0.heap[B]? = some (.cells x.cells.toArray T (0, 0))) (hv : Reads w0 2 x.pv ps.length (ps.flatMap Pnt.cells)) (hl : st.1.length ≤ 1000000) (hk : x.kind = 4) :
    Calls Try.prog 66 #[.pointer (some ⟨c, 0, none⟩), .pointer (some ⟨B, 0, none⟩)] w fun e' w' => e' = .returned (.tuple #[]) ∧ CodS w0 w' (ext Sw w w') c b (x.run ps st).1 (x.run ps st).2 ∧ Chg (SC Sw c) w w' := by
  have hS : Hid (∀ k, Sw k → w0.heap.size ≤ k ∧ k < w.heap.size ∧ k ≠ c) := by obtain ⟨_, _, _, h3, _, _⟩ := h; exact h3
  have hcl : c < w.heap.size := by obtain ⟨_, h1, _⟩ := h; exact (Array.getElem?_eq_some_iff.1 h1).1
  have cW0 : Chg (fun _ => False) w0 w := by obtain ⟨_, _, _, _, _, h5⟩ := h; exact h5
  have h00 := cW0.size
  have a0 : w.cell? ⟨B, 0, none⟩ = some (.int .i64 4) := cW0.cell (cell_cmd hB 0 _ (by rw [← hk]; rfl)) (fun h => h)
  have HK := Lib.hid hk
  have HB := Lib.hid hB
  have HV := Lib.hid hv
  have D0 : Hid (CodS w0 w (ext Sw w w) c b st.1 st.2) := h.grow (fun k hk => .inl hk) (fun k hk => by
    rcases hk with hk | hk
    · exact hS.out k hk
    · omega)
  have G0 : Hid (Chg (SC Sw c) w w) := Chg.refl _ _
  clear h hB hv hk
  go_enter Try.func66, Try.ntmps66
  go_wp2_with fail
  clear a0
  refine (ctext_any w0 w (ext Sw w w) c b (st).1 (st).2 x.tenant B 1 D0.out (cell_cmd HB.out 1 _ rfl) (by omega)).mono ?_
  rintro e' w1 ⟨rfl, h1, c1⟩
  have cA0 : Chg (fun _ => False) w w := Chg.refl _ _
  obtain ⟨d1, g1⟩ := cod_next hS.out hcl h00 G0.out cA0 h1 c1
  have D1 : Hid (CodS w0 w1 (ext Sw w w1) c b (tstep (st) x.tenant).1 (tstep (st) x.tenant).2) := d1
  have G1 := Lib.hid g1
  clear d1 g1 h1 c1 cA0
  have LL1 : (tstep (st) x.tenant).1.length ≤ st.1.length + 3000 := Nat.le_trans (tstep_len _ _) (by omega)
  go_wp2_with fail
  refine wpT.begin (fun k => SC (ext Sw w w1) c k ∨ w1.heap.size ≤ k) 15 (by kernel_rfl) rfl ?_
  refine wpT.take 0 rfl (by kernel_rfl) (fun _ _ _ h => h) rfl (fun w' hw' => by go_simp <;> with_reducible rfl) ?_
  simp only [Act.put, List.setIfInBounds_toArray, List.set_cons_zero, List.set_cons_succ]
  refine wpT.take 1 rfl (by kernel_rfl) (fun _ _ _ h => h) rfl (fun w' hw' => by go_simp <;> with_reducible rfl) ?_
  simp only [Act.put, List.setIfInBounds_toArray, List.set_cons_zero, List.set_cons_succ]
  refine wpT.take 2 rfl (by kernel_rfl) (fun _ _ _ h => h) rfl (fun w' hw' => by go_simp <;> with_reducible rfl) ?_
  simp only [Act.put, List.setIfInBounds_toArray, List.set_cons_zero, List.set_cons_succ]
  refine wpT.take 3 rfl (by kernel_rfl) (fun _ _ _ h => h) rfl (fun w' hw' => by go_simp <;> with_reducible rfl) ?_
  simp only [Act.put, List.setIfInBounds_toArray, List.set_cons_zero, List.set_cons_succ]
  refine wpT.take 4 rfl (by kernel_rfl) (fun _ _ _ h => h) rfl (fun w' hw' => by go_simp <;> with_reducible rfl) ?_
  simp only [Act.put, List.setIfInBounds_toArray, List.set_cons_zero, List.set_cons_succ]
  refine wpT.take 5 rfl (by kernel_rfl) (fun _ _ _ h => h) rfl (fun w' hw' => by go_simp <;> with_reducible rfl) ?_
  simp only [Act.put, List.setIfInBounds_toArray, List.set_cons_zero, List.set_cons_succ]
  refine wpT.take 6 rfl (by kernel_rfl) (fun _ _ _ h => h) rfl (fun w' hw' => by go_simp <;> with_reducible rfl) ?_
  simp only [Act.put, List.setIfInBounds_toArray, List.set_cons_zero, List.set_cons_succ]
  refine wpT.take 7 rfl (by kernel_rfl) (fun _ _ _ h => h) rfl (fun w' hw' => by go_simp <;> with_reducible rfl) ?_
  simp only [Act.put, List.setIfInBounds_toArray, List.set_cons_zero, List.set_cons_succ]
  refine wpT.take 8 rfl (by kernel_rfl) (fun _ _ _ h => h) rfl (fun w' hw' => by go_simp <;> with_reducible rfl) ?_
  simp only [Act.put, List.setIfInBounds_toArray, List.set_cons_zero, List.set_cons_succ]
  refine wpT.take 9 rfl (by kernel_rfl) (fun _ _ _ h => h) rfl (fun w' hw' => by go_simp <;> with_reducible rfl) ?_
  simp only [Act.put, List.setIfInBounds_toArray, List.set_cons_zero, List.set_cons_succ]
  refine wpT.take 10 rfl (by kernel_rfl) (fun _ _ _ h => h) rfl (fun w' hw' => by go_simp <;> with_reducible rfl) ?_
  simp only [Act.put, List.setIfInBounds_toArray, List.set_cons_zero, List.set_cons_succ]
  refine wpT.take 11 rfl (by kernel_rfl) (fun _ _ _ h => h) rfl (fun w' hw' => by go_simp <;> with_reducible rfl) ?_
  simp only [Act.put, List.setIfInBounds_toArray, List.set_cons_zero, List.set_cons_succ]
  refine wpT.take 12 rfl (by kernel_rfl) (fun _ _ _ h => h) rfl (fun w' hw' => by go_simp <;> with_reducible rfl) ?_
  simp only [Act.put, List.setIfInBounds_toArray, List.set_cons_zero, List.set_cons_succ]
  refine wpT.call 13 rfl (by kernel_rfl) rfl (fun K hK => ?_)
  go_wp2_with fail
  refine hK _ _ ((Chg.refl _ _).alloc _) ?_
  clear hK
  try (simp only [Act.put, List.setIfInBounds_toArray, List.set_cons_zero, List.set_cons_succ])
  have cA1 : Chg (fun _ => False) w1 (w1.drew.alloc (.cells #[.pointer (some ⟨B, 7, none⟩), .pointer (some ⟨B, 8, none⟩), .pointer (some ⟨B, 9, none⟩)] 172)) := ((Chg.refl _ w1).drew).alloc _
  have hR1 := reads_lit w1.drew 172 [.pointer (some ⟨B, 7, none⟩), .pointer (some ⟨B, 8, none⟩), .pointer (some ⟨B, 9, none⟩)] 3 rfl (by omega)
  refine wpT.call 14 rfl (by kernel_rfl) rfl (fun K hK => ?_)
  go_wp2_with fail
  refine (ints_any w0 _ (ext Sw w w1) c b (tstep (st) x.tenant).1 (tstep (st) x.tenant).2 _ B [(7, x.praw), (8, x.pmid), (9, x.plong)] (D1.out.same cA1) hR1 (fun q hq => ?_) (fun p hp => ?_) (by simp) (by have := LL1; omega)).mono ?_
  · have hq' : w1.heap.size = q := by simpa [Value.ownBlock] using hq
    subst hq'
    exact new_not (fun k hk => (hS.out k hk).2.1) hcl G1.out.size
  · simp only [List.mem_cons, List.not_mem_nil, or_false] at hp
    rcases hp with rfl | rfl | rfl
    · exact cell_cmd HB.out 7 _ rfl
    · exact cell_cmd HB.out 8 _ rfl
    · exact cell_cmd HB.out 9 _ rfl
  rintro e' w2 ⟨rfl, h2, c2⟩
  refine hK _ _ (c2.mono (fun k _ h => .inl h)) ?_
  clear hK
  refine wpT.done (by kernel_rfl) ?_
  obtain ⟨d2, g2⟩ := cod_next hS.out hcl h00 G1.out cA1 h2 c2
  have D2 : Hid (CodS w0 w2 (ext Sw w w2) c b ([x.praw, x.pmid, x.plong].foldl istep (tstep (st) x.tenant)).1 ([x.praw, x.pmid, x.plong].foldl istep (tstep (st) x.tenant)).2) := d2
  have G2 := Lib.hid g2
  clear d2 g2 h2 c2 cA1
  go_wp2_with fail
  go_end0
  have hrun : x.run ps st = [x.praw, x.pmid, x.plong].foldl istep (tstep (st) x.tenant) := by
    unfold Cmd.run
    rw [HK.out]
    rfl
  rw [hrun]
  exact ⟨rfl, D2.out, G2.out⟩

set_option maxRecDepth 100000 in
set_option maxHeartbeats 1000000 in
theorem fields_5 (w0 w : World) (Sw : Nat → Prop) (c b : Nat) (st : List UInt8 × Int) (x : Cmd) (ps : List Pnt) (B : Nat) (T : TypeId) (h : CodS w0 w Sw c b st.1 st.2) (hB : w0.heap[B]? = some (.cells x.cells.toArray T (0, 0))) (hv : Reads w0 2 x.pv ps.length (ps.flatMap Pnt.cells)) (hl : st.1.length ≤ 1000000) (hk : x.kind = 5) :
    Calls Try.prog 66 #[.pointer (some ⟨c, 0, none⟩), .pointer (some ⟨B, 0, none⟩)] w fun e' w' => e' = .returned (.tuple #[]) ∧ CodS w0 w' (ext Sw w w') c b (x.run ps st).1 (x.run ps st).2 ∧ Chg (SC Sw c) w w' := by
  have hS : Hid (∀ k, Sw k → w0.heap.size ≤ k ∧ k < w.heap.size ∧ k ≠ c) := by obtain ⟨_, _, _, h3, _, _⟩ := h; exact h3
  have hcl : c < w.heap.size := by obtain ⟨_, h1, _⟩ := h; exact (Array.getElem?_eq_some_iff.1 h1).1
  have cW0 : Chg (fun _ => False) w0 w := by obtain ⟨_, _, _, _, _, h5⟩ := h; exact h5
  have h00 := cW0.size
  have a0 : w.cell? ⟨B, 0, none⟩ = some (.int .i64 5) := cW0.cell (cell_cmd hB 0 _ (by rw [← hk]; rfl)) (fun h => h)
  have HK := Lib.hid hk
  have HB := Lib.hid hB
  have HV := Lib.hid hv
  have D0 : Hid (CodS w0 w (ext Sw w w) c b st.1 st.2) := h.grow (fun k hk => .inl hk) (fun k hk => by
    rcases hk with hk | hk
    · exact hS.out k hk
    · omega)
  have G0 : Hid (Chg (SC Sw c) w w) := Chg.refl _ _
  clear h hB hv hk
  go_enter Try.func66, Try.ntmps66
  go_wp2_with fail
  clear a0
  refine wpT.begin (fun k => SC (ext Sw w w) c k ∨ w.heap.size ≤ k) 14 (by kernel_rfl) rfl ?_
  refine wpT.take 0 rfl (by kernel_rfl) (fun _ _ _ h => h) rfl (fun w' hw' => by go_simp <;> with_reducible rfl) ?_
  simp only [Act.put, List.setIfInBounds_toArray, List.set_cons_zero, List.set_cons_succ]
  refine wpT.take 1 rfl (by kernel_rfl) (fun _ _ _ h => h) rfl (fun w' hw' => by go_simp <;> with_reducible rfl) ?_
  simp only [Act.put, List.setIfInBounds_toArray, List.set_cons_zero, List.set_cons_succ]
  refine wpT.take 2 rfl (by kernel_rfl) (fun _ _ _ h => h) rfl (fun w' hw' => by go_simp <;> with_reducible rfl) ?_
  simp only [Act.put, List.setIfInBounds_toArray, List.set_cons_zero, List.set_cons_succ]
  refine wpT.take 3 rfl (by kernel_rfl) (fun _ _ _ h => h) rfl (fun w' hw' => by go_simp <;> with_reducible rfl) ?_
  simp only [Act.put, List.setIfInBounds_toArray, List.set_cons_zero, List.set_cons_succ]
  refine wpT.take 4 rfl (by kernel_rfl) (fun _ _ _ h => h) rfl (fun w' hw' => by go_simp <;> with_reducible rfl) ?_
  simp only [Act.put, List.setIfInBounds_toArray, List.set_cons_zero, List.set_cons_succ]
  refine wpT.take 5 rfl (by kernel_rfl) (fun _ _ _ h => h) rfl (fun w' hw' => by go_simp <;> with_reducible rfl) ?_
  simp only [Act.put, List.setIfInBounds_toArray, List.set_cons_zero, List.set_cons_succ]
  refine wpT.take 6 rfl (by kernel_rfl) (fun _ _ _ h => h) rfl (fun w' hw' => by go_simp <;> with_reducible rfl) ?_
  simp only [Act.put, List.setIfInBounds_toArray, List.set_cons_zero, List.set_cons_succ]
  refine wpT.take 7 rfl (by kernel_rfl) (fun _ _ _ h => h) rfl (fun w' hw' => by go_simp <;> with_reducible rfl) ?_
  simp only [Act.put, List.setIfInBounds_toArray, List.set_cons_zero, List.set_cons_succ]
  refine wpT.take 8 rfl (by kernel_rfl) (fun _ _ _ h => h) rfl (fun w' hw' => by go_simp <;> with_reducible rfl) ?_
  simp only [Act.put, List.setIfInBounds_toArray, List.set_cons_zero, List.set_cons_succ]
  refine wpT.take 9 rfl (by kernel_rfl) (fun _ _ _ h => h) rfl (fun w' hw' => by go_simp <;> with_reducible rfl) ?_
  simp only [Act.put, List.setIfInBounds_toArray, List.set_cons_zero, List.set_cons_succ]
  refine wpT.take 10 rfl (by kernel_rfl) (fun _ _ _ h => h) rfl (fun w' hw' => by go_simp <;> with_reducible rfl) ?_
  simp only [Act.put, List.setIfInBounds_toArray, List.set_cons_zero, List.set_cons_succ]
  refine wpT.take 11 rfl (by kernel_rfl) (fun _ _ _ h => h) rfl (fun w' hw' => by go_simp <;> with_reducible rfl) ?_
  simp only [Act.put, List.setIfInBounds_toArray, List.set_cons_zero, List.set_cons_succ]
  refine wpT.call 12 rfl (by kernel_rfl) rfl (fun K hK => ?_)
  go_wp2_with fail
  refine hK _ _ ((Chg.refl _ _).alloc _) ?_
  clear hK
  try (simp only [Act.put, List.setIfInBounds_toArray, List.set_cons_zero, List.set_cons_succ])
  have cA0 : Chg (fun _ => False) w (w.drew.alloc (.cells #[.pointer (some ⟨B, 1, none⟩), .pointer (some ⟨B, 10, none⟩), .pointer (some ⟨B, 11, none⟩)] 170)) := ((Chg.refl _ w).drew).alloc _
  have hR0 := reads_lit w.drew 170 [.pointer (some ⟨B, 1, none⟩), .pointer (some ⟨B, 10, none⟩), .pointer (some ⟨B, 11, none⟩)] 3 rfl (by omega)
  refine wpT.call 13 rfl (by kernel_rfl) rfl (fun K hK => ?_)
  go_wp2_with fail
  refine (texts_any w0 _ (ext Sw w w) c b (st).1 (st).2 _ B [(1, x.tenant), (10, x.hname), (11, x.hser)] (D0.out.same cA0) hR0 (fun q hq => ?_) (fun p hp => ?_) (by simp) (by omega)).mono ?_
  · have hq' : w.heap.size = q := by simpa [Value.ownBlock] using hq
    subst hq'
    exact new_not (fun k hk => (hS.out k hk).2.1) hcl G0.out.size
  · simp only [List.mem_cons, List.not_mem_nil, or_false] at hp
    rcases hp with rfl | rfl | rfl
    · exact cell_cmd HB.out 1 _ rfl
    · exact cell_cmd HB.out 10 _ rfl
    · exact cell_cmd HB.out 11 _ rfl
  rintro e' w1 ⟨rfl, h1, c1⟩
  refine hK _ _ (c1.mono (fun k _ h => .inl h)) ?_
  clear hK
  refine wpT.done (by kernel_rfl) ?_
  obtain ⟨d1, g1⟩ := cod_next hS.out hcl h00 G0.out cA0 h1 c1
  have D1 : Hid (CodS w0 w1 (ext Sw w w1) c b ([x.tenant, x.hname, x.hser].foldl tstep (st)).1 ([x.tenant, x.hname, x.hser].foldl tstep (st)).2) := d1
  have G1 := Lib.hid g1
  clear d1 g1 h1 c1 cA0
  have LL1 : ([x.tenant, x.hname, x.hser].foldl tstep (st)).1.length ≤ st.1.length + 3000 := Nat.le_trans (foldl_len tstep tstep_len _ _) (by simp)
  go_wp2_with fail
  refine wpT.begin (fun k => SC (ext Sw w w1) c k ∨ w1.heap.size ≤ k) 13 (by kernel_rfl) rfl ?_
  refine wpT.take 0 rfl (by kernel_rfl) (fun _ _ _ h => h) rfl (fun w' hw' => by go_simp <;> with_reducible rfl) ?_
  simp only [Act.put, List.setIfInBounds_toArray, List.set_cons_zero, List.set_cons_succ]
  refine wpT.take 1 rfl (by kernel_rfl) (fun _ _ _ h => h) rfl (fun w' hw' => by go_simp <;> with_reducible rfl) ?_
  simp only [Act.put, List.setIfInBounds_toArray, List.set_cons_zero, List.set_cons_succ]
  refine wpT.take 2 rfl (by kernel_rfl) (fun _ _ _ h => h) rfl (fun w' hw' => by go_simp <;> with_reducible rfl) ?_
  simp only [Act.put, List.setIfInBounds_toArray, List.set_cons_zero, List.set_cons_succ]
  refine wpT.take 3 rfl (by kernel_rfl) (fun _ _ _ h => h) rfl (fun w' hw' => by go_simp <;> with_reducible rfl) ?_
  simp only [Act.put, List.setIfInBounds_toArray, List.set_cons_zero, List.set_cons_succ]
  refine wpT.take 4 rfl (by kernel_rfl) (fun _ _ _ h => h) rfl (fun w' hw' => by go_simp <;> with_reducible rfl) ?_
  simp only [Act.put, List.setIfInBounds_toArray, List.set_cons_zero, List.set_cons_succ]
  refine wpT.take 5 rfl (by kernel_rfl) (fun _ _ _ h => h) rfl (fun w' hw' => by go_simp <;> with_reducible rfl) ?_
  simp only [Act.put, List.setIfInBounds_toArray, List.set_cons_zero, List.set_cons_succ]
  refine wpT.take 6 rfl (by kernel_rfl) (fun _ _ _ h => h) rfl (fun w' hw' => by go_simp <;> with_reducible rfl) ?_
  simp only [Act.put, List.setIfInBounds_toArray, List.set_cons_zero, List.set_cons_succ]
  refine wpT.take 7 rfl (by kernel_rfl) (fun _ _ _ h => h) rfl (fun w' hw' => by go_simp <;> with_reducible rfl) ?_
  simp only [Act.put, List.setIfInBounds_toArray, List.set_cons_zero, List.set_cons_succ]
  refine wpT.take 8 rfl (by kernel_rfl) (fun _ _ _ h => h) rfl (fun w' hw' => by go_simp <;> with_reducible rfl) ?_
  simp only [Act.put, List.setIfInBounds_toArray, List.set_cons_zero, List.set_cons_succ]
  refine wpT.take 9 rfl (by kernel_rfl) (fun _ _ _ h => h) rfl (fun w' hw' => by go_simp <;> with_reducible rfl) ?_
  simp only [Act.put, List.setIfInBounds_toArray, List.set_cons_zero, List.set_cons_succ]
  refine wpT.take 10 rfl (by kernel_rfl) (fun _ _ _ h => h) rfl (fun w' hw' => by go_simp <;> with_reducible rfl) ?_
  simp only [Act.put, List.setIfInBounds_toArray, List.set_cons_zero, List.set_cons_succ]
  refine wpT.call 11 rfl (by kernel_rfl) rfl (fun K hK => ?_)
  go_wp2_with fail
  refine hK _ _ ((Chg.refl _ _).alloc _) ?_
  clear hK
  try (simp only [Act.put, List.setIfInBounds_toArray, List.set_cons_zero, List.set_cons_succ])
  have cA1 : Chg (fun _ => False) w1 (w1.drew.alloc (.cells #[.pointer (some ⟨B, 12, none⟩), .pointer (some ⟨B, 13, none⟩)] 172)) := ((Chg.refl _ w1).drew).alloc _
  have hR1 := reads_lit w1.drew 172 [.pointer (some ⟨B, 12, none⟩), .pointer (some ⟨B, 13, none⟩)] 2 rfl (by omega)
  refine wpT.call 12 rfl (by kernel_rfl) rfl (fun K hK => ?_)
  go_wp2_with fail
  refine (ints_any w0 _ (ext Sw w w1) c b ([x.tenant, x.hname, x.hser].foldl tstep (st)).1 ([x.tenant, x.hname, x.hser].foldl tstep (st)).2 _ B [(12, x.hlo), (13, x.hhi)] (D1.out.same cA1) hR1 (fun q hq => ?_) (fun p hp => ?_) (by simp) (by have := LL1; omega)).mono ?_
  · have hq' : w1.heap.size = q := by simpa [Value.ownBlock] using hq
    subst hq'
    exact new_not (fun k hk => (hS.out k hk).2.1) hcl G1.out.size
  · simp only [List.mem_cons, List.not_mem_nil, or_false] at hp
    rcases hp with rfl | rfl
    · exact cell_cmd HB.out 12 _ rfl
    · exact cell_cmd HB.out 13 _ rfl
  rintro e' w2 ⟨rfl, h2, c2⟩
  refine hK _ _ (c2.mono (fun k _ h => .inl h)) ?_
  clear hK
  refine wpT.done (by kernel_rfl) ?_
  obtain ⟨d2, g2⟩ := cod_next hS.out hcl h00 G1.out cA1 h2 c2
  have D2 : Hid (CodS w0 w2 (ext Sw w w2) c b ([x.hlo, x.hhi].foldl istep ([x.tenant, x.hname, x.hser].foldl tstep (st))).1 ([x.hlo, x.hhi].foldl istep ([x.tenant, x.hname, x.hser].foldl tstep (st))).2) := d2
  have G2 := Lib.hid g2
  clear d2 g2 h2 c2 cA1
  go_wp2_with fail
  go_end0
  have hrun : x.run ps st = [x.hlo, x.hhi].foldl istep ([x.tenant, x.hname, x.hser].foldl tstep (st)) := by
    unfold Cmd.run
    rw [HK.out]
    rfl
  rw [hrun]
  exact ⟨rfl, D2.out, G2.out⟩

set_option maxRecDepth 100000 in
set_option maxHeartbeats 1000000 in
theorem fields_6 (w0 w : World) (Sw : Nat → Prop) (c b : Nat) (st : List UInt8 × Int) (x : Cmd) (ps : List Pnt) (B : Nat) (T : TypeId) (h : CodS w0 w Sw c b st.1 st.2) (hB : w0.heap[B]? = some (.cells x.cells.toArray T (0, 0))) (hv : Reads w0 2 x.pv ps.length (ps.flatMap Pnt.cells)) (hl : st.1.length ≤ 1000000) (hk : x.kind = 6) :
    Calls Try.prog 66 #[.pointer (some ⟨c, 0, none⟩), .pointer (some ⟨B, 0, none⟩)] w fun e' w' => e' = .returned (.tuple #[]) ∧ CodS w0 w' (ext Sw w w') c b (x.run ps st).1 (x.run ps st).2 ∧ Chg (SC Sw c) w w' := by
  have hS : Hid (∀ k, Sw k → w0.heap.size ≤ k ∧ k < w.heap.size ∧ k ≠ c) := by obtain ⟨_, _, _, h3, _, _⟩ := h; exact h3
  have hcl : c < w.heap.size := by obtain ⟨_, h1, _⟩ := h; exact (Array.getElem?_eq_some_iff.1 h1).1
  have cW0 : Chg (fun _ => False) w0 w := by obtain ⟨_, _, _, _, _, h5⟩ := h; exact h5
  have h00 := cW0.size
  have a0 : w.cell? ⟨B, 0, none⟩ = some (.int .i64 6) := cW0.cell (cell_cmd hB 0 _ (by rw [← hk]; rfl)) (fun h => h)
  have HK := Lib.hid hk
  have HB := Lib.hid hB
  have HV := Lib.hid hv
  have D0 : Hid (CodS w0 w (ext Sw w w) c b st.1 st.2) := h.grow (fun k hk => .inl hk) (fun k hk => by
    rcases hk with hk | hk
    · exact hS.out k hk
    · omega)
  have G0 : Hid (Chg (SC Sw c) w w) := Chg.refl _ _
  clear h hB hv hk
  go_enter Try.func66, Try.ntmps66
  go_wp2_with fail
  clear a0
  refine wpT.begin (fun k => SC (ext Sw w w) c k ∨ w.heap.size ≤ k) 9 (by kernel_rfl) rfl ?_
  refine wpT.take 0 rfl (by kernel_rfl) (fun _ _ _ h => h) rfl (fun w' hw' => by go_simp <;> with_reducible rfl) ?_
  simp only [Act.put, List.setIfInBounds_toArray, List.set_cons_zero, List.set_cons_succ]
  refine wpT.take 1 rfl (by kernel_rfl) (fun _ _ _ h => h) rfl (fun w' hw' => by go_simp <;> with_reducible rfl) ?_
  simp only [Act.put, List.setIfInBounds_toArray, List.set_cons_zero, List.set_cons_succ]
  refine wpT.take 2 rfl (by kernel_rfl) (fun _ _ _ h => h) rfl (fun w' hw' => by go_simp <;> with_reducible rfl) ?_
  simp only [Act.put, List.setIfInBounds_toArray, List.set_cons_zero, List.set_cons_succ]
  refine wpT.take 3 rfl (by kernel_rfl) (fun _ _ _ h => h) rfl (fun w' hw' => by go_simp <;> with_reducible rfl) ?_
  simp only [Act.put, List.setIfInBounds_toArray, List.set_cons_zero, List.set_cons_succ]
  refine wpT.take 4 rfl (by kernel_rfl) (fun _ _ _ h => h) rfl (fun w' hw' => by go_simp <;> with_reducible rfl) ?_
  simp only [Act.put, List.setIfInBounds_toArray, List.set_cons_zero, List.set_cons_succ]
  refine wpT.take 5 rfl (by kernel_rfl) (fun _ _ _ h => h) rfl (fun w' hw' => by go_simp <;> with_reducible rfl) ?_
  simp only [Act.put, List.setIfInBounds_toArray, List.set_cons_zero, List.set_cons_succ]
  refine wpT.take 6 rfl (by kernel_rfl) (fun _ _ _ h => h) rfl (fun w' hw' => by go_simp <;> with_reducible rfl) ?_
  simp only [Act.put, List.setIfInBounds_toArray, List.set_cons_zero, List.set_cons_succ]
  refine wpT.call 7 rfl (by kernel_rfl) rfl (fun K hK => ?_)
  go_wp2_with fail
  refine hK _ _ ((Chg.refl _ _).alloc _) ?_
  clear hK
  try (simp only [Act.put, List.setIfInBounds_toArray, List.set_cons_zero, List.set_cons_succ])
  have cA0 : Chg (fun _ => False) w (w.drew.alloc (.cells #[.pointer (some ⟨B, 1, none⟩), .pointer (some ⟨B, 3, none⟩)] 170)) := ((Chg.refl _ w).drew).alloc _
  have hR0 := reads_lit w.drew 170 [.pointer (some ⟨B, 1, none⟩), .pointer (some ⟨B, 3, none⟩)] 2 rfl (by omega)
  refine wpT.call 8 rfl (by kernel_rfl) rfl (fun K hK => ?_)
  go_wp2_with fail
  refine (texts_any w0 _ (ext Sw w w) c b (st).1 (st).2 _ B [(1, x.tenant), (3, x.name)] (D0.out.same cA0) hR0 (fun q hq => ?_) (fun p hp => ?_) (by simp) (by omega)).mono ?_
  · have hq' : w.heap.size = q := by simpa [Value.ownBlock] using hq
    subst hq'
    exact new_not (fun k hk => (hS.out k hk).2.1) hcl G0.out.size
  · simp only [List.mem_cons, List.not_mem_nil, or_false] at hp
    rcases hp with rfl | rfl
    · exact cell_cmd HB.out 1 _ rfl
    · exact cell_cmd HB.out 3 _ rfl
  rintro e' w1 ⟨rfl, h1, c1⟩
  refine hK _ _ (c1.mono (fun k _ h => .inl h)) ?_
  clear hK
  refine wpT.done (by kernel_rfl) ?_
  obtain ⟨d1, g1⟩ := cod_next hS.out hcl h00 G0.out cA0 h1 c1
  have D1 : Hid (CodS w0 w1 (ext Sw w w1) c b ([x.tenant, x.name].foldl tstep (st)).1 ([x.tenant, x.name].foldl tstep (st)).2) := d1
  have G1 := Lib.hid g1
  clear d1 g1 h1 c1 cA0
  go_wp2_with fail
  go_end0
  have hrun : x.run ps st = [x.tenant, x.name].foldl tstep (st) := by
    unfold Cmd.run
    rw [HK.out]
    rfl
  rw [hrun]
  exact ⟨rfl, D1.out, G1.out⟩

set_option maxRecDepth 100000 in
set_option maxHeartbeats 1000000 in
theorem fields_7 (w0 w : World) (Sw : Nat → Prop) (c b : Nat) (st : List UInt8 × Int) (x : Cmd) (ps : List Pnt) (B : Nat) (T : TypeId) (h : CodS w0 w Sw c b st.1 st.2) (hB : w0.heap[B]? = some (.cells x.cells.toArray T (0, 0))) (hv : Reads w0 2 x.pv ps.length (ps.flatMap Pnt.cells)) (hl : st.1.length ≤ 1000000) (hk : x.kind = 7) :
    Calls Try.prog 66 #[.pointer (some ⟨c, 0, none⟩), .pointer (some ⟨B, 0, none⟩)] w fun e' w' => e' = .returned (.tuple #[]) ∧ CodS w0 w' (ext Sw w w') c b (x.run ps st).1 (x.run ps st).2 ∧ Chg (SC Sw c) w w' := by
  have hS : Hid (∀ k, Sw k → w0.heap.size ≤ k ∧ k < w.heap.size ∧ k ≠ c) := by obtain ⟨_, _, _, h3, _, _⟩ := h; exact h3
  have hcl : c < w.heap.size := by obtain ⟨_, h1, _⟩ := h; exact (Array.getElem?_eq_some_iff.1 h1).1
  have cW0 : Chg (fun _ => False) w0 w := by obtain ⟨_, _, _, _, _, h5⟩ := h; exact h5
  have h00 := cW0.size
  have a0 : w.cell? ⟨B, 0, none⟩ = some (.int .i64 7) := cW0.cell (cell_cmd hB 0 _ (by rw [← hk]; rfl)) (fun h => h)
  have HK := Lib.hid hk
  have HB := Lib.hid hB
  have HV := Lib.hid hv
  have D0 : Hid (CodS w0 w (ext Sw w w) c b st.1 st.2) := h.grow (fun k hk => .inl hk) (fun k hk => by
    rcases hk with hk | hk
    · exact hS.out k hk
    · omega)
  have G0 : Hid (Chg (SC Sw c) w w) := Chg.refl _ _
  clear h hB hv hk
  go_enter Try.func66, Try.ntmps66
  go_wp2_with fail
  clear a0
  refine wpT.begin (fun k => SC (ext Sw w w) c k ∨ w.heap.size ≤ k) 9 (by kernel_rfl) rfl ?_
  refine wpT.take 0 rfl (by kernel_rfl) (fun _ _ _ h => h) rfl (fun w' hw' => by go_simp <;> with_reducible rfl) ?_
  simp only [Act.put, List.setIfInBounds_toArray, List.set_cons_zero, List.set_cons_succ]
  refine wpT.take 1 rfl (by kernel_rfl) (fun _ _ _ h => h) rfl (fun w' hw' => by go_simp <;> with_reducible rfl) ?_
  simp only [Act.put, List.setIfInBounds_toArray, List.set_cons_zero, List.set_cons_succ]
  refine wpT.take 2 rfl (by kernel_rfl) (fun _ _ _ h => h) rfl (fun w' hw' => by go_simp <;> with_reducible rfl) ?_
  simp only [Act.put, List.setIfInBounds_toArray, List.set_cons_zero, List.set_cons_succ]
  refine wpT.take 3 rfl (by kernel_rfl) (fun _ _ _ h => h) rfl (fun w' hw' => by go_simp <;> with_reducible rfl) ?_
  simp only [Act.put, List.setIfInBounds_toArray, List.set_cons_zero, List.set_cons_succ]
  refine wpT.take 4 rfl (by kernel_rfl) (fun _ _ _ h => h) rfl (fun w' hw' => by go_simp <;> with_reducible rfl) ?_
  simp only [Act.put, List.setIfInBounds_toArray, List.set_cons_zero, List.set_cons_succ]
  refine wpT.take 5 rfl (by kernel_rfl) (fun _ _ _ h => h) rfl (fun w' hw' => by go_simp <;> with_reducible rfl) ?_
  simp only [Act.put, List.setIfInBounds_toArray, List.set_cons_zero, List.set_cons_succ]
  refine wpT.take 6 rfl (by kernel_rfl) (fun _ _ _ h => h) rfl (fun w' hw' => by go_simp <;> with_reducible rfl) ?_
  simp only [Act.put, List.setIfInBounds_toArray, List.set_cons_zero, List.set_cons_succ]
  refine wpT.call 7 rfl (by kernel_rfl) rfl (fun K hK => ?_)
  go_wp2_with fail
  refine hK _ _ ((Chg.refl _ _).alloc _) ?_
  clear hK
  try (simp only [Act.put, List.setIfInBounds_toArray, List.set_cons_zero, List.set_cons_succ])
  have cA0 : Chg (fun _ => False) w (w.drew.alloc (.cells #[.pointer (some ⟨B, 1, none⟩), .pointer (some ⟨B, 2, none⟩)] 170)) := ((Chg.refl _ w).drew).alloc _
  have hR0 := reads_lit w.drew 170 [.pointer (some ⟨B, 1, none⟩), .pointer (some ⟨B, 2, none⟩)] 2 rfl (by omega)
  refine wpT.call 8 rfl (by kernel_rfl) rfl (fun K hK => ?_)
  go_wp2_with fail
  refine (texts_any w0 _ (ext Sw w w) c b (st).1 (st).2 _ B [(1, x.tenant), (2, x.series)] (D0.out.same cA0) hR0 (fun q hq => ?_) (fun p hp => ?_) (by simp) (by omega)).mono ?_
  · have hq' : w.heap.size = q := by simpa [Value.ownBlock] using hq
    subst hq'
    exact new_not (fun k hk => (hS.out k hk).2.1) hcl G0.out.size
  · simp only [List.mem_cons, List.not_mem_nil, or_false] at hp
    rcases hp with rfl | rfl
    · exact cell_cmd HB.out 1 _ rfl
    · exact cell_cmd HB.out 2 _ rfl
  rintro e' w1 ⟨rfl, h1, c1⟩
  refine hK _ _ (c1.mono (fun k _ h => .inl h)) ?_
  clear hK
  refine wpT.done (by kernel_rfl) ?_
  obtain ⟨d1, g1⟩ := cod_next hS.out hcl h00 G0.out cA0 h1 c1
  have D1 : Hid (CodS w0 w1 (ext Sw w w1) c b ([x.tenant, x.series].foldl tstep (st)).1 ([x.tenant, x.series].foldl tstep (st)).2) := d1
  have G1 := Lib.hid g1
  clear d1 g1 h1 c1 cA0
  have LL1 : ([x.tenant, x.series].foldl tstep (st)).1.length ≤ st.1.length + 3000 := Nat.le_trans (foldl_len tstep tstep_len _ _) (by simp)
  go_wp2_with fail
  refine wpT.begin (fun k => SC (ext Sw w w1) c k ∨ w1.heap.size ≤ k) 11 (by kernel_rfl) rfl ?_
  refine wpT.take 0 rfl (by kernel_rfl) (fun _ _ _ h => h) rfl (fun w' hw' => by go_simp <;> with_reducible rfl) ?_
  simp only [Act.put, List.setIfInBounds_toArray, List.set_cons_zero, List.set_cons_succ]
  refine wpT.take 1 rfl (by kernel_rfl) (fun _ _ _ h => h) rfl (fun w' hw' => by go_simp <;> with_reducible rfl) ?_
  simp only [Act.put, List.setIfInBounds_toArray, List.set_cons_zero, List.set_cons_succ]
  refine wpT.take 2 rfl (by kernel_rfl) (fun _ _ _ h => h) rfl (fun w' hw' => by go_simp <;> with_reducible rfl) ?_
  simp only [Act.put, List.setIfInBounds_toArray, List.set_cons_zero, List.set_cons_succ]
  refine wpT.take 3 rfl (by kernel_rfl) (fun _ _ _ h => h) rfl (fun w' hw' => by go_simp <;> with_reducible rfl) ?_
  simp only [Act.put, List.setIfInBounds_toArray, List.set_cons_zero, List.set_cons_succ]
  refine wpT.take 4 rfl (by kernel_rfl) (fun _ _ _ h => h) rfl (fun w' hw' => by go_simp <;> with_reducible rfl) ?_
  simp only [Act.put, List.setIfInBounds_toArray, List.set_cons_zero, List.set_cons_succ]
  refine wpT.take 5 rfl (by kernel_rfl) (fun _ _ _ h => h) rfl (fun w' hw' => by go_simp <;> with_reducible rfl) ?_
  simp only [Act.put, List.setIfInBounds_toArray, List.set_cons_zero, List.set_cons_succ]
  refine wpT.take 6 rfl (by kernel_rfl) (fun _ _ _ h => h) rfl (fun w' hw' => by go_simp <;> with_reducible rfl) ?_
  simp only [Act.put, List.setIfInBounds_toArray, List.set_cons_zero, List.set_cons_succ]
  refine wpT.take 7 rfl (by kernel_rfl) (fun _ _ _ h => h) rfl (fun w' hw' => by go_simp <;> with_reducible rfl) ?_
  simp only [Act.put, List.setIfInBounds_toArray, List.set_cons_zero, List.set_cons_succ]
  refine wpT.take 8 rfl (by kernel_rfl) (fun _ _ _ h => h) rfl (fun w' hw' => by go_simp <;> with_reducible rfl) ?_
  simp only [Act.put, List.setIfInBounds_toArray, List.set_cons_zero, List.set_cons_succ]
  refine wpT.call 9 rfl (by kernel_rfl) rfl (fun K hK => ?_)
  go_wp2_with fail
  refine hK _ _ ((Chg.refl _ _).alloc _) ?_
  clear hK
  try (simp only [Act.put, List.setIfInBounds_toArray, List.set_cons_zero, List.set_cons_succ])
  have cA1 : Chg (fun _ => False) w1 (w1.drew.alloc (.cells #[.pointer (some ⟨B, 5, none⟩), .pointer (some ⟨B, 6, none⟩)] 172)) := ((Chg.refl _ w1).drew).alloc _
  have hR1 := reads_lit w1.drew 172 [.pointer (some ⟨B, 5, none⟩), .pointer (some ⟨B, 6, none⟩)] 2 rfl (by omega)
  refine wpT.call 10 rfl (by kernel_rfl) rfl (fun K hK => ?_)
  go_wp2_with fail
  refine (ints_any w0 _ (ext Sw w w1) c b ([x.tenant, x.series].foldl tstep (st)).1 ([x.tenant, x.series].foldl tstep (st)).2 _ B [(5, x.rlo), (6, x.rhi)] (D1.out.same cA1) hR1 (fun q hq => ?_) (fun p hp => ?_) (by simp) (by have := LL1; omega)).mono ?_
  · have hq' : w1.heap.size = q := by simpa [Value.ownBlock] using hq
    subst hq'
    exact new_not (fun k hk => (hS.out k hk).2.1) hcl G1.out.size
  · simp only [List.mem_cons, List.not_mem_nil, or_false] at hp
    rcases hp with rfl | rfl
    · exact cell_cmd HB.out 5 _ rfl
    · exact cell_cmd HB.out 6 _ rfl
  rintro e' w2 ⟨rfl, h2, c2⟩
  refine hK _ _ (c2.mono (fun k _ h => .inl h)) ?_
  clear hK
  refine wpT.done (by kernel_rfl) ?_
  obtain ⟨d2, g2⟩ := cod_next hS.out hcl h00 G1.out cA1 h2 c2
  have D2 : Hid (CodS w0 w2 (ext Sw w w2) c b ([x.rlo, x.rhi].foldl istep ([x.tenant, x.series].foldl tstep (st))).1 ([x.rlo, x.rhi].foldl istep ([x.tenant, x.series].foldl tstep (st))).2) := d2
  have G2 := Lib.hid g2
  clear d2 g2 h2 c2 cA1
  go_wp2_with fail
  go_end0
  have hrun : x.run ps st = [x.rlo, x.rhi].foldl istep ([x.tenant, x.series].foldl tstep (st)) := by
    unfold Cmd.run
    rw [HK.out]
    rfl
  rw [hrun]
  exact ⟨rfl, D2.out, G2.out⟩

set_option maxRecDepth 100000 in
set_option maxHeartbeats 1000000 in
theorem fields_8 (w0 w : World) (Sw : Nat → Prop) (c b : Nat) (st : List UInt8 × Int) (x : Cmd) (ps : List Pnt) (B : Nat) (T : TypeId) (h : CodS w0 w Sw c b st.1 st.2) (hB : w0.heap[B]? = some (.cells x.cells.toArray T (0, 0))) (hv : Reads w0 2 x.pv ps.length (ps.flatMap Pnt.cells)) (hl : st.1.length ≤ 1000000) (hk : x.kind = 8) :
    Calls Try.prog 66 #[.pointer (some ⟨c, 0, none⟩), .pointer (some ⟨B, 0, none⟩)] w fun e' w' => e' = .returned (.tuple #[]) ∧ CodS w0 w' (ext Sw w w') c b (x.run ps st).1 (x.run ps st).2 ∧ Chg (SC Sw c) w w' := by
  have hS : Hid (∀ k, Sw k → w0.heap.size ≤ k ∧ k < w.heap.size ∧ k ≠ c) := by obtain ⟨_, _, _, h3, _, _⟩ := h; exact h3
  have hcl : c < w.heap.size := by obtain ⟨_, h1, _⟩ := h; exact (Array.getElem?_eq_some_iff.1 h1).1
  have cW0 : Chg (fun _ => False) w0 w := by obtain ⟨_, _, _, _, _, h5⟩ := h; exact h5
  have h00 := cW0.size
  have a0 : w.cell? ⟨B, 0, none⟩ = some (.int .i64 8) := cW0.cell (cell_cmd hB 0 _ (by rw [← hk]; rfl)) (fun h => h)
  have HK := Lib.hid hk
  have HB := Lib.hid hB
  have HV := Lib.hid hv
  have D0 : Hid (CodS w0 w (ext Sw w w) c b st.1 st.2) := h.grow (fun k hk => .inl hk) (fun k hk => by
    rcases hk with hk | hk
    · exact hS.out k hk
    · omega)
  have G0 : Hid (Chg (SC Sw c) w w) := Chg.refl _ _
  clear h hB hv hk
  go_enter Try.func66, Try.ntmps66
  go_wp2_with fail
  clear a0
  refine (cint_any w0 w (ext Sw w w) c b (st).1 (st).2 x.at_ B 16 D0.out (cell_cmd HB.out 16 _ rfl) (by omega)).mono ?_
  rintro e' w1 ⟨rfl, h1, c1⟩
  have cA0 : Chg (fun _ => False) w w := Chg.refl _ _
  obtain ⟨d1, g1⟩ := cod_next hS.out hcl h00 G0.out cA0 h1 c1
  have D1 : Hid (CodS w0 w1 (ext Sw w w1) c b (istep (st) x.at_).1 (istep (st) x.at_).2) := d1
  have G1 := Lib.hid g1
  clear d1 g1 h1 c1 cA0
  go_wp2_with fail
  go_end0
  have hrun : x.run ps st = istep (st) x.at_ := by
    unfold Cmd.run
    rw [HK.out]
    rfl
  rw [hrun]
  exact ⟨rfl, D1.out, G1.out⟩

set_option maxRecDepth 100000 in
set_option maxHeartbeats 1000000 in
theorem fields_9 (w0 w : World) (Sw : Nat → Prop) (c b : Nat) (st : List UInt8 × Int) (x : Cmd) (ps : List Pnt) (B : Nat) (T : TypeId) (h : CodS w0 w Sw c b st.1 st.2) (hB : w0.heap[B]? = some (.cells x.cells.toArray T (0, 0))) (hv : Reads w0 2 x.pv ps.length (ps.flatMap Pnt.cells)) (hl : st.1.length ≤ 1000000) (hk : x.kind = 9) :
    Calls Try.prog 66 #[.pointer (some ⟨c, 0, none⟩), .pointer (some ⟨B, 0, none⟩)] w fun e' w' => e' = .returned (.tuple #[]) ∧ CodS w0 w' (ext Sw w w') c b (x.run ps st).1 (x.run ps st).2 ∧ Chg (SC Sw c) w w' := by
  have hS : Hid (∀ k, Sw k → w0.heap.size ≤ k ∧ k < w.heap.size ∧ k ≠ c) := by obtain ⟨_, _, _, h3, _, _⟩ := h; exact h3
  have hcl : c < w.heap.size := by obtain ⟨_, h1, _⟩ := h; exact (Array.getElem?_eq_some_iff.1 h1).1
  have cW0 : Chg (fun _ => False) w0 w := by obtain ⟨_, _, _, _, _, h5⟩ := h; exact h5
  have h00 := cW0.size
  have a0 : w.cell? ⟨B, 0, none⟩ = some (.int .i64 9) := cW0.cell (cell_cmd hB 0 _ (by rw [← hk]; rfl)) (fun h => h)
  have HK := Lib.hid hk
  have HB := Lib.hid hB
  have HV := Lib.hid hv
  have D0 : Hid (CodS w0 w (ext Sw w w) c b st.1 st.2) := h.grow (fun k hk => .inl hk) (fun k hk => by
    rcases hk with hk | hk
    · exact hS.out k hk
    · omega)
  have G0 : Hid (Chg (SC Sw c) w w) := Chg.refl _ _
  clear h hB hv hk
  go_enter Try.func66, Try.ntmps66
  go_wp2_with fail
  clear a0
  refine (cint_any w0 w (ext Sw w w) c b (st).1 (st).2 x.bytes B 14 D0.out (cell_cmd HB.out 14 _ rfl) (by omega)).mono ?_
  rintro e' w1 ⟨rfl, h1, c1⟩
  have cA0 : Chg (fun _ => False) w w := Chg.refl _ _
  obtain ⟨d1, g1⟩ := cod_next hS.out hcl h00 G0.out cA0 h1 c1
  have D1 : Hid (CodS w0 w1 (ext Sw w w1) c b (istep (st) x.bytes).1 (istep (st) x.bytes).2) := d1
  have G1 := Lib.hid g1
  clear d1 g1 h1 c1 cA0
  go_wp2_with fail
  go_end0
  have hrun : x.run ps st = istep (st) x.bytes := by
    unfold Cmd.run
    rw [HK.out]
    rfl
  rw [hrun]
  exact ⟨rfl, D1.out, G1.out⟩
end Go.Proofs.Ytjhkhdockiocgaa
