/- Contracts of package command: a coder that reads: points, fields. -/
import Derived.Test.YtjhkhdockiocgaaCmd8
import Derived.Test.YtjhkhdockiocgaaOnly
namespace Go.Proofs.Ytjhkhdockiocgaa
open Go.RowKit Go.Cat

/-- The command that is read, of a kind; its points; what is left. -/
def rdc (k : Int) (pv : Value) (st : RS) : Cmd × List Pnt × RS :=
  if k = 0 ∨ k = 1 then (⟨k, (rdText 255 st).1, [], [], pv, 0, 0, 0, 0, 0, [], [], 0, 0, (rdInt (rdText 255 st).2).1, (rdInt (rdInt (rdText 255 st).2).2).1, 0⟩, [], (rdInt (rdInt (rdText 255 st).2).2).2)
  else if k = 2 then (⟨k, (rdText 255 st).1, [], [], pv, 0, 0, 0, 0, 0, [], [], 0, 0, 0, 0, 0⟩, [], (rdText 255 st).2)
  else if k = 3 then (⟨k, (rdText 255 st).1, (rdText 255 (rdText 255 st).2).1, [], pv, 0, 0, 0, 0, 0, [], [], 0, 0, 0, 0, 0⟩, (rdPts (rdText 255 (rdText 255 st).2).2).1, (rdPts (rdText 255 (rdText 255 st).2).2).2)
  else if k = 4 then (⟨k, (rdText 255 st).1, [], [], pv, 0, 0, (rdInt (rdText 255 st).2).1, (rdInt (rdInt (rdText 255 st).2).2).1, (rdInt (rdInt (rdInt (rdText 255 st).2).2).2).1, [], [], 0, 0, 0, 0, 0⟩, [], (rdInt (rdInt (rdInt (rdText 255 st).2).2).2).2)
  else if k = 5 then (⟨k, (rdText 255 st).1, [], [], pv, 0, 0, 0, 0, 0, (rdText 255 (rdText 255 st).2).1, (rdText 255 (rdText 255 (rdText 255 st).2).2).1, (rdInt (rdText 255 (rdText 255 (rdText 255 st).2).2).2).1, (rdInt (rdInt (rdText 255 (rdText 255 (rdText 255 st).2).2).2).2).1, 0, 0, 0⟩, [], (rdInt (rdInt (rdText 255 (rdText 255 (rdText 255 st).2).2).2).2).2)
  else if k = 6 then (⟨k, (rdText 255 st).1, [], (rdText 255 (rdText 255 st).2).1, pv, 0, 0, 0, 0, 0, [], [], 0, 0, 0, 0, 0⟩, [], (rdText 255 (rdText 255 st).2).2)
  else if k = 7 then (⟨k, (rdText 255 st).1, (rdText 255 (rdText 255 st).2).1, [], pv, (rdInt (rdText 255 (rdText 255 st).2).2).1, (rdInt (rdInt (rdText 255 (rdText 255 st).2).2).2).1, 0, 0, 0, [], [], 0, 0, 0, 0, 0⟩, [], (rdInt (rdInt (rdText 255 (rdText 255 st).2).2).2).2)
  else if k = 8 then (⟨k, [], [], [], pv, 0, 0, 0, 0, 0, [], [], 0, 0, 0, 0, (rdInt st).1⟩, [], (rdInt st).2)
  else if k = 9 then (⟨k, [], [], [], pv, 0, 0, 0, 0, 0, [], [], 0, 0, (rdInt st).1, 0, 0⟩, [], (rdInt st).2)
  else (⟨k, [], [], [], pv, 0, 0, 0, 0, 0, [], [], 0, 0, 0, 0, 0⟩, [], st)
theorem rdRow_len : ∀ (k : Nat) (acc : List Pnt) (st : RS), (rdRow k acc st).2.1.length ≤ st.1.length
  | 0, _, _ => Nat.le_refl _
  | k + 1, acc, st => by
    unfold rdRow
    split
    · exact rdPnt_len st
    · exact Nat.le_trans (rdRow_len k _ _) (rdPnt_len st)
theorem rdPts_len (st : RS) : (rdPts st).2.1.length ≤ st.1.length := Nat.le_trans (rdRow_len _ _ _) (rdCount_len _ _)
def kz (k : Int) : Array Value := #[.int .i64 k, .string ⟨#[]⟩, .string ⟨#[]⟩, .string ⟨#[]⟩, .slice none 0 0, .int .i64 0, .int .i64 0, .int .i64 0, .int .i64 0, .int .i64 0, .string ⟨#[]⟩, .string ⟨#[]⟩, .int .i64 0, .int .i64 0, .int .i64 0, .int .i64 0, .int .i64 0]

set_option maxRecDepth 100000 in
set_option maxHeartbeats 1000000 in
theorem rcpoints_any (w : World) (S : Nat → Prop) (c b : Nat) (st : RS) (B o : Nat) (cs : Array Value) (T : TypeId) (h : CodR w S c b st) (hS : ∀ k, S k → k < w.heap.size) (hB : w.heap[B]? = some (.cells cs T (0, 0))) (hBS : ¬ S B) (hBc : B ≠ c) (ho : o < cs.size) (hl : st.1.length ≤ 140737488355328) :
    Calls Try.prog 103 #[.pointer (some ⟨c, 0, none⟩), .pointer (some ⟨B, o, none⟩)] w fun e' w' => ∃ a n cp, e' = .returned (.tuple #[]) ∧ CodR w' S c b (rdPts st).2 ∧ w'.heap[B]? = some (.cells (cs.setIfInBounds o (.slice a n cp)) T (0, 0)) ∧ Reads w' 2 (.slice a n cp) (rdPts st).1.length ((rdPts st).1.flatMap Pnt.cells) ∧ (∀ k, (Value.slice a n cp).ownBlock = some k → w.heap.size ≤ k) ∧ Chg (RB2 b B) w w' := by
  obtain ⟨t, h1, h2, h3⟩ := h
  have hSb : S b := by obtain ⟨_, _, _, _, _, h5, _⟩ := h2; exact h5
  have hbB : ¬ B = b := fun e => hBS (e ▸ hSb)
  have hbc : ¬ c = b := fun e => h3 (e ▸ hSb)
  have hBl : B < w.heap.size := (Array.getElem?_eq_some_iff.1 hB).1
  have c1 : w.cell? ⟨c, 1, none⟩ = some (.pointer (some ⟨b, 0, none⟩)) := by rw [cell_of_heap h1]; rfl
  have HC := Lib.hid h1
  have HR := Lib.hid h2
  have HB := Lib.hid hB
  clear h1 h2 hB
  go_enter Try.func103, Try.ntmps103
  go_wp2_with fail
  refine (oget_any _ S b st HR.out hS hl).mono ?_
  rintro e w2 ⟨v, rfl, hv, hvn, r2, c2⟩
  obtain ⟨a, cp, rfl⟩ := hv.form
  obtain ⟨n, hn⟩ : ∃ n, n = (rdPts st).1.length := ⟨_, rfl⟩
  rw [← hn] at hv hvn ⊢
  have hB2 : Hid (w2.heap[B]? = some (.cells cs T (0, 0))) := c2.heap HB.out hbB
  have HC2 := Lib.hid (c2.heap HC.out hbc)
  have HN := Lib.hid hn
  have HR2 := Lib.hid r2
  have HV := Lib.hid hv
  have HVN := Lib.hid hvn
  have q1 : w2.cell? ⟨B, o, none⟩ = some cs[o] := by rw [cell_of_heap hB2.out]; simp [ho]
  have q2 : w2.frozen? ⟨B, o, none⟩ = false := frozen_of_heap hB2.out _
  clear hn r2 c1 hv hvn
  go_wp2_with fail
  refine bodyPost_ret (v := .tuple #[]) (results_none rfl _ _ _) rfl ?_
  have cS : Chg (fun k => k = B) w2 (w2.setCell ⟨B, o, none⟩ (.slice a n cp)) := (Chg.refl (fun k => k = B) w2).setCell (p := ⟨B, o, none⟩) (fun _ => rfl) _
  refine ⟨a, n, cp, rfl, ⟨t, cS.heap HC2.out (fun h => hBc h.symm), HR2.out.kept cS (fun k hk e => hBS (e ▸ hk)), h3⟩, Cat.heap_setCell_same hB2.out o _, by rw [← HN.out]; exact HV.out.kept cS (fun k hk e => by have := HVN.out k hk; omega), HVN.out, (c2.mono (fun k _ h => .inl h)).trans (cS.mono (fun k _ h => .inr h))⟩

set_option maxRecDepth 100000 in
set_option maxHeartbeats 1000000 in
theorem rfields_0 (w : World) (S : Nat → Prop) (c b : Nat) (st : RS) (B : Nat) (T : TypeId) (h : CodR w S c b st) (hS : ∀ k, S k → k < w.heap.size) (hB : w.heap[B]? = some (.cells (kz 0) T (0, 0))) (hBS : ¬ S B) (hBc : B ≠ c) (hl : st.1.length ≤ 140737488355328) :
    Calls Try.prog 66 #[.pointer (some ⟨c, 0, none⟩), .pointer (some ⟨B, 0, none⟩)] w fun e' w' => ∃ pv, e' = .returned (.tuple #[]) ∧ CodR w' S c b (rdc 0 pv st).2.2 ∧ w'.heap[B]? = some (.cells (rdc 0 pv st).1.cells.toArray T (0, 0)) ∧ Reads w' 2 pv (rdc 0 pv st).2.1.length ((rdc 0 pv st).2.1.flatMap Pnt.cells) ∧ (∀ k, pv.ownBlock = some k → w.heap.size ≤ k) ∧ (rdc 0 pv st).1.pv = pv ∧ Chg (RB2 b B) w w' := by
  have hSb : S b := h.sb
  have hbl := hS b hSb
  have hBl : B < w.heap.size := (Array.getElem?_eq_some_iff.1 hB).1
  have a0 : w.cell? ⟨B, 0, none⟩ = some (.int .i64 0) := by rw [cell_of_heap hB]; rfl
  have hcB : ¬ RB2 b B c := fun e => by
    rcases e with e | e
    · obtain ⟨_, _, _, h3⟩ := h; exact h3 (e ▸ hSb)
    · exact hBc e.symm
  have D0 : Hid (CodR w S c b st) := h
  have B0 := Lib.hid hB
  have G0 : Hid (Chg (RB2 b B) w w) := Chg.refl _ _
  clear h hB
  go_enter Try.func66, Try.ntmps66
  go_wp2_with fail
  clear a0
  refine (rctext_any w S c b st B 1 (kz 0) T D0.out B0.out hBS hBc (by simp [kz]) hl).mono ?_
  rintro e' w1 ⟨rfl, d, hb, g⟩
  have g1 : Chg (RB2 b B) w w1 := G0.out.trans g
  have hn1 := rdText_len 255 st
  obtain ⟨⟨v1, s1⟩, e1⟩ : ∃ r, r = rdText 255 st := ⟨_, rfl⟩
  rw [← e1] at hn1 d hb
  simp only at hn1 d hb
  have hl1 : s1.1.length ≤ 140737488355328 := by omega
  have E1 := Lib.hid e1
  clear e1
  have D1 : Hid (CodR w1 S c b s1) := d
  have B1 : Hid (w1.heap[B]? = some (.cells ((kz 0).setIfInBounds 1 (.string ⟨v1.toArray⟩)) T (0, 0))) := hb
  have G1 := Lib.hid g1
  clear d hb g g1
  go_wp2_with fail
  refine wpT.begin (fun k => RB2 b B k ∨ w1.heap.size ≤ k) 9 (by kernel_rfl) rfl ?_
  refine wpT.take 0 rfl (by kernel_rfl) (fun _ _ _ h => h) rfl (fun w' hw' => by go_simp <;> with_reducible rfl) ?_
  simp only [Act.put, List.setIfInBounds_toArray, List.set_cons_zero, List.set_cons_succ]
  refine wpT.take 1 rfl (by kernel_rfl) (fun _ _ _ h => h) rfl (fun w' hw' => by go_simp <;> with_reducible rfl) ?_
  simp only [Act.put, List.setIfInBounds_toArray, List.set_cons_zero, List.set_cons_succ]
  refine wpT.take 2 rfl (by kernel_rfl) (fun _ _ _ h => h) rfl (fun w' hw' => by go_simp <;> with_reducible rfl) ?_
  simp only [Act.put, List.setIfInBounds_toArray, List.set_cons_zero, List.set_cons_succ]
  refine wpT.take 3 rfl (by kernel_rfl) (fun _ _ _ h => h) rfl (fun w' hw' => by go_simp <;> with_reducible rfl) ?_
  simp only [Act.put, List.setIfInBounds_toArray, List.set_cons_zero, List.set_cons_succ]
  refine wpT.take 4 rfl (by kernel_rfl) (fun _ _ _ h => h) rfl (fun w' hw' => by go_simp <;> with_reducible rfl) ?_
  simp only [Act.put, List.setIfInBounds_toArray, List.set_cons_zero, List.set_cons_succ]
  refine wpT.take 5 rfl (by kernel_rfl) (fun _ _ _ h => h) rfl (fun w' hw' => by go_simp <;> with_reducible rfl) ?_
  simp only [Act.put, List.setIfInBounds_toArray, List.set_cons_zero, List.set_cons_succ]
  refine wpT.take 6 rfl (by kernel_rfl) (fun _ _ _ h => h) rfl (fun w' hw' => by go_simp <;> with_reducible rfl) ?_
  simp only [Act.put, List.setIfInBounds_toArray, List.set_cons_zero, List.set_cons_succ]
  refine wpT.call 7 rfl (by kernel_rfl) rfl (fun K hK => ?_)
  go_wp2_with fail
  refine hK _ _ ((Chg.refl _ _).alloc _) ?_
  clear hK
  try (simp only [Act.put, List.setIfInBounds_toArray, List.set_cons_zero, List.set_cons_succ])
  have cA : Chg (fun _ => False) w1 (w1.drew.alloc (.cells #[.pointer (some ⟨B, 14, none⟩), .pointer (some ⟨B, 15, none⟩)] 172)) := ((Chg.refl _ w1).drew).alloc _
  have hR := reads_lit w1.drew 172 [.pointer (some ⟨B, 14, none⟩), .pointer (some ⟨B, 15, none⟩)] 2 rfl (by omega)
  have zG := G1.out.size
  refine wpT.call 8 rfl (by kernel_rfl) rfl (fun K hK => ?_)
  go_wp2_with fail
  refine (rcints_any _ S c b s1 B ((kz 0).setIfInBounds 1 (.string ⟨v1.toArray⟩)) T _ [14, 15] (D1.out.kept cA (fun _ _ h => h) (fun h => h)) (cA.heap B1.out (fun h => h)) hBS hBc hR (fun q hq => ?_) (fun p hp => ?_) (by simp) hl1).mono ?_
  · have hq' : w1.heap.size = q := by simpa [Value.ownBlock] using hq
    subst hq'
    intro hq2
    rcases hq2 with hq2 | hq2
    · omega
    · omega
  · simp only [List.mem_cons, List.not_mem_nil, or_false] at hp
    rcases hp with rfl | rfl <;> simp [kz]
  rintro e' w2 ⟨rfl, d, hb, g⟩
  refine hK _ _ (g.mono (fun k _ h => .inl h)) ?_
  clear hK
  refine wpT.done (by kernel_rfl) ?_
  have g2 : Chg (RB2 b B) w w2 := (G1.out.trans (cA.mono (fun _ _ h => h.elim))).trans g
  simp only [List.foldl_cons, List.foldl_nil, riS] at d hb
  have hn2 := rdInt_len s1
  obtain ⟨⟨v2, s2⟩, e2⟩ : ∃ r, r = rdInt s1 := ⟨_, rfl⟩
  rw [← e2] at hn2 d hb
  simp only at hn2 d hb
  have hl2 : s2.1.length ≤ 140737488355328 := by omega
  have E2 := Lib.hid e2
  clear e2
  have hn3 := rdInt_len s2
  obtain ⟨⟨v3, s3⟩, e3⟩ : ∃ r, r = rdInt s2 := ⟨_, rfl⟩
  rw [← e3] at hn3 d hb
  simp only at hn3 d hb
  have hl3 : s3.1.length ≤ 140737488355328 := by omega
  have E3 := Lib.hid e3
  clear e3
  have D2 : Hid (CodR w2 S c b s3) := d
  have B2 : Hid (w2.heap[B]? = some (.cells ((((kz 0).setIfInBounds 1 (.string ⟨v1.toArray⟩)).setIfInBounds 14 (.int .i64 v2)).setIfInBounds 15 (.int .i64 v3)) T (0, 0))) := hb
  have G2 := Lib.hid g2
  clear d hb g g2
  clear cA hR zG
  go_wp2_with fail
  go_end0
  have hrun : rdc 0 (.slice none 0 0) st = (⟨0, v1, [], [], .slice none 0 0, 0, 0, 0, 0, 0, [], [], 0, 0, v2, v3, 0⟩, [], s3) := by
    simp [rdc, ← E1.out, ← E2.out, ← E3.out]
  refine ⟨.slice none 0 0, rfl, ?_, ?_, ?_, ?_, ?_, G2.out⟩
  all_goals (try rw [hrun])
  · exact D2.out
  · exact B2.out
  · exact Reads.nil _ 2
  · intro k hk; simp [Value.ownBlock] at hk

set_option maxRecDepth 100000 in
set_option maxHeartbeats 1000000 in
theorem rfields_1 (w : World) (S : Nat → Prop) (c b : Nat) (st : RS) (B : Nat) (T : TypeId) (h : CodR w S c b st) (hS : ∀ k, S k → k < w.heap.size) (hB : w.heap[B]? = some (.cells (kz 1) T (0, 0))) (hBS : ¬ S B) (hBc : B ≠ c) (hl : st.1.length ≤ 140737488355328) :
    Calls Try.prog 66 #[.pointer (some ⟨c, 0, none⟩), .pointer (some ⟨B, 0, none⟩)] w fun e' w' => ∃ pv, e' = .returned (.tuple #[]) ∧ CodR w' S c b (rdc 1 pv st).2.2 ∧ w'.heap[B]? = some (.cells (rdc 1 pv st).1.cells.toArray T (0, 0)) ∧ Reads w' 2 pv (rdc 1 pv st).2.1.length ((rdc 1 pv st).2.1.flatMap Pnt.cells) ∧ (∀ k, pv.ownBlock = some k → w.heap.size ≤ k) ∧ (rdc 1 pv st).1.pv = pv ∧ Chg (RB2 b B) w w' := by
  have hSb : S b := h.sb
  have hbl := hS b hSb
  have hBl : B < w.heap.size := (Array.getElem?_eq_some_iff.1 hB).1
  have a0 : w.cell? ⟨B, 0, none⟩ = some (.int .i64 1) := by rw [cell_of_heap hB]; rfl
  have hcB : ¬ RB2 b B c := fun e => by
    rcases e with e | e
    · obtain ⟨_, _, _, h3⟩ := h; exact h3 (e ▸ hSb)
    · exact hBc e.symm
  have D0 : Hid (CodR w S c b st) := h
  have B0 := Lib.hid hB
  have G0 : Hid (Chg (RB2 b B) w w) := Chg.refl _ _
  clear h hB
  go_enter Try.func66, Try.ntmps66
  go_wp2_with fail
  clear a0
  refine (rctext_any w S c b st B 1 (kz 1) T D0.out B0.out hBS hBc (by simp [kz]) hl).mono ?_
  rintro e' w1 ⟨rfl, d, hb, g⟩
  have g1 : Chg (RB2 b B) w w1 := G0.out.trans g
  have hn1 := rdText_len 255 st
  obtain ⟨⟨v1, s1⟩, e1⟩ : ∃ r, r = rdText 255 st := ⟨_, rfl⟩
  rw [← e1] at hn1 d hb
  simp only at hn1 d hb
  have hl1 : s1.1.length ≤ 140737488355328 := by omega
  have E1 := Lib.hid e1
  clear e1
  have D1 : Hid (CodR w1 S c b s1) := d
  have B1 : Hid (w1.heap[B]? = some (.cells ((kz 1).setIfInBounds 1 (.string ⟨v1.toArray⟩)) T (0, 0))) := hb
  have G1 := Lib.hid g1
  clear d hb g g1
  go_wp2_with fail
  refine wpT.begin (fun k => RB2 b B k ∨ w1.heap.size ≤ k) 9 (by kernel_rfl) rfl ?_
  refine wpT.take 0 rfl (by kernel_rfl) (fun _ _ _ h => h) rfl (fun w' hw' => by go_simp <;> with_reducible rfl) ?_
  simp only [Act.put, List.setIfInBounds_toArray, List.set_cons_zero, List.set_cons_succ]
  refine wpT.take 1 rfl (by kernel_rfl) (fun _ _ _ h => h) rfl (fun w' hw' => by go_simp <;> with_reducible rfl) ?_
  simp only [Act.put, List.setIfInBounds_toArray, List.set_cons_zero, List.set_cons_succ]
  refine wpT.take 2 rfl (by kernel_rfl) (fun _ _ _ h => h) rfl (fun w' hw' => by go_simp <;> with_reducible rfl) ?_
  simp only [Act.put, List.setIfInBounds_toArray, List.set_cons_zero, List.set_cons_succ]
  refine wpT.take 3 rfl (by kernel_rfl) (fun _ _ _ h => h) rfl (fun w' hw' => by go_simp <;> with_reducible rfl) ?_
  simp only [Act.put, List.setIfInBounds_toArray, List.set_cons_zero, List.set_cons_succ]
  refine wpT.take 4 rfl (by kernel_rfl) (fun _ _ _ h => h) rfl (fun w' hw' => by go_simp <;> with_reducible rfl) ?_
  simp only [Act.put, List.setIfInBounds_toArray, List.set_cons_zero, List.set_cons_succ]
  refine wpT.take 5 rfl (by kernel_rfl) (fun _ _ _ h => h) rfl (fun w' hw' => by go_simp <;> with_reducible rfl) ?_
  simp only [Act.put, List.setIfInBounds_toArray, List.set_cons_zero, List.set_cons_succ]
  refine wpT.take 6 rfl (by kernel_rfl) (fun _ _ _ h => h) rfl (fun w' hw' => by go_simp <;> with_reducible rfl) ?_
  simp only [Act.put, List.setIfInBounds_toArray, List.set_cons_zero, List.set_cons_succ]
  refine wpT.call 7 rfl (by kernel_rfl) rfl (fun K hK => ?_)
  go_wp2_with fail
  refine hK _ _ ((Chg.refl _ _).alloc _) ?_
  clear hK
  try (simp only [Act.put, List.setIfInBounds_toArray, List.set_cons_zero, List.set_cons_succ])
  have cA : Chg (fun _ => False) w1 (w1.drew.alloc (.cells #[.pointer (some ⟨B, 14, none⟩), .pointer (some ⟨B, 15, none⟩)] 172)) := ((Chg.refl _ w1).drew).alloc _
  have hR := reads_lit w1.drew 172 [.pointer (some ⟨B, 14, none⟩), .pointer (some ⟨B, 15, none⟩)] 2 rfl (by omega)
  have zG := G1.out.size
  refine wpT.call 8 rfl (by kernel_rfl) rfl (fun K hK => ?_)
  go_wp2_with fail
  refine (rcints_any _ S c b s1 B ((kz 1).setIfInBounds 1 (.string ⟨v1.toArray⟩)) T _ [14, 15] (D1.out.kept cA (fun _ _ h => h) (fun h => h)) (cA.heap B1.out (fun h => h)) hBS hBc hR (fun q hq => ?_) (fun p hp => ?_) (by simp) hl1).mono ?_
  · have hq' : w1.heap.size = q := by simpa [Value.ownBlock] using hq
    subst hq'
    intro hq2
    rcases hq2 with hq2 | hq2
    · omega
    · omega
  · simp only [List.mem_cons, List.not_mem_nil, or_false] at hp
    rcases hp with rfl | rfl <;> simp [kz]
  rintro e' w2 ⟨rfl, d, hb, g⟩
  refine hK _ _ (g.mono (fun k _ h => .inl h)) ?_
  clear hK
  refine wpT.done (by kernel_rfl) ?_
  have g2 : Chg (RB2 b B) w w2 := (G1.out.trans (cA.mono (fun _ _ h => h.elim))).trans g
  simp only [List.foldl_cons, List.foldl_nil, riS] at d hb
  have hn2 := rdInt_len s1
  obtain ⟨⟨v2, s2⟩, e2⟩ : ∃ r, r = rdInt s1 := ⟨_, rfl⟩
  rw [← e2] at hn2 d hb
  simp only at hn2 d hb
  have hl2 : s2.1.length ≤ 140737488355328 := by omega
  have E2 := Lib.hid e2
  clear e2
  have hn3 := rdInt_len s2
  obtain ⟨⟨v3, s3⟩, e3⟩ : ∃ r, r = rdInt s2 := ⟨_, rfl⟩
  rw [← e3] at hn3 d hb
  simp only at hn3 d hb
  have hl3 : s3.1.length ≤ 140737488355328 := by omega
  have E3 := Lib.hid e3
  clear e3
  have D2 : Hid (CodR w2 S c b s3) := d
  have B2 : Hid (w2.heap[B]? = some (.cells ((((kz 1).setIfInBounds 1 (.string ⟨v1.toArray⟩)).setIfInBounds 14 (.int .i64 v2)).setIfInBounds 15 (.int .i64 v3)) T (0, 0))) := hb
  have G2 := Lib.hid g2
  clear d hb g g2
  clear cA hR zG
  go_wp2_with fail
  go_end0
  have hrun : rdc 1 (.slice none 0 0) st = (⟨1, v1, [], [], .slice none 0 0, 0, 0, 0, 0, 0, [], [], 0, 0, v2, v3, 0⟩, [], s3) := by
    simp [rdc, ← E1.out, ← E2.out, ← E3.out]
  refine ⟨.slice none 0 0, rfl, ?_, ?_, ?_, ?_, ?_, G2.out⟩
  all_goals (try rw [hrun])
  · exact D2.out
  · exact B2.out
  · exact Reads.nil _ 2
  · intro k hk; simp [Value.ownBlock] at hk

set_option maxRecDepth 100000 in
set_option maxHeartbeats 1000000 in
theorem rfields_2 (w : World) (S : Nat → Prop) (c b : Nat) (st : RS) (B : Nat) (T : TypeId) (h : CodR w S c b st) (hS : ∀ k, S k → k < w.heap.size) (hB : w.heap[B]? = some (.cells (kz 2) T (0, 0))) (hBS : ¬ S B) (hBc : B ≠ c) (hl : st.1.length ≤ 140737488355328) :
    Calls Try.prog 66 #[.pointer (some ⟨c, 0, none⟩), .pointer (some ⟨B, 0, none⟩)] w fun e' w' => ∃ pv, e' = .returned (.tuple #[]) ∧ CodR w' S c b (rdc 2 pv st).2.2 ∧ w'.heap[B]? = some (.cells (rdc 2 pv st).1.cells.toArray T (0, 0)) ∧ Reads w' 2 pv (rdc 2 pv st).2.1.length ((rdc 2 pv st).2.1.flatMap Pnt.cells) ∧ (∀ k, pv.ownBlock = some k → w.heap.size ≤ k) ∧ (rdc 2 pv st).1.pv = pv ∧ Chg (RB2 b B) w w' := by
  have hSb : S b := h.sb
  have hbl := hS b hSb
  have hBl : B < w.heap.size := (Array.getElem?_eq_some_iff.1 hB).1
  have a0 : w.cell? ⟨B, 0, none⟩ = some (.int .i64 2) := by rw [cell_of_heap hB]; rfl
  have hcB : ¬ RB2 b B c := fun e => by
    rcases e with e | e
    · obtain ⟨_, _, _, h3⟩ := h; exact h3 (e ▸ hSb)
    · exact hBc e.symm
  have D0 : Hid (CodR w S c b st) := h
  have B0 := Lib.hid hB
  have G0 : Hid (Chg (RB2 b B) w w) := Chg.refl _ _
  clear h hB
  go_enter Try.func66, Try.ntmps66
  go_wp2_with fail
  clear a0
  refine (rctext_any w S c b st B 1 (kz 2) T D0.out B0.out hBS hBc (by simp [kz]) hl).mono ?_
  rintro e' w1 ⟨rfl, d, hb, g⟩
  have g1 : Chg (RB2 b B) w w1 := G0.out.trans g
  have hn1 := rdText_len 255 st
  obtain ⟨⟨v1, s1⟩, e1⟩ : ∃ r, r = rdText 255 st := ⟨_, rfl⟩
  rw [← e1] at hn1 d hb
  simp only at hn1 d hb
  have hl1 : s1.1.length ≤ 140737488355328 := by omega
  have E1 := Lib.hid e1
  clear e1
  have D1 : Hid (CodR w1 S c b s1) := d
  have B1 : Hid (w1.heap[B]? = some (.cells ((kz 2).setIfInBounds 1 (.string ⟨v1.toArray⟩)) T (0, 0))) := hb
  have G1 := Lib.hid g1
  clear d hb g g1
  go_wp2_with fail
  go_end0
  have hrun : rdc 2 (.slice none 0 0) st = (⟨2, v1, [], [], .slice none 0 0, 0, 0, 0, 0, 0, [], [], 0, 0, 0, 0, 0⟩, [], s1) := by
    simp [rdc, ← E1.out]
  refine ⟨.slice none 0 0, rfl, ?_, ?_, ?_, ?_, ?_, G1.out⟩
  all_goals (try rw [hrun])
  · exact D1.out
  · exact B1.out
  · exact Reads.nil _ 2
  · intro k hk; simp [Value.ownBlock] at hk

set_option maxRecDepth 100000 in
set_option maxHeartbeats 1000000 in
theorem rfields_3 (w : World) (S : Nat → Prop) (c b : Nat) (st : RS) (B : Nat) (T : TypeId) (h : CodR w S c b st) (hS : ∀ k, S k → k < w.heap.size) (hB : w.heap[B]? = some (.cells (kz 3) T (0, 0))) (hBS : ¬ S B) (hBc : B ≠ c) (hl : st.1.length ≤ 140737488355328) :
    Calls Try.prog 66 #[.pointer (some ⟨c, 0, none⟩), .pointer (some ⟨B, 0, none⟩)] w fun e' w' => ∃ pv, e' = .returned (.tuple #[]) ∧ CodR w' S c b (rdc 3 pv st).2.2 ∧ w'.heap[B]? = some (.cells (rdc 3 pv st).1.cells.toArray T (0, 0)) ∧ Reads w' 2 pv (rdc 3 pv st).2.1.length ((rdc 3 pv st).2.1.flatMap Pnt.cells) ∧ (∀ k, pv.ownBlock = some k → w.heap.size ≤ k) ∧ (rdc 3 pv st).1.pv = pv ∧ Chg (RB2 b B) w w' := by
  have hSb : S b := h.sb
  have hbl := hS b hSb
  have hBl : B < w.heap.size := (Array.getElem?_eq_some_iff.1 hB).1
  have a0 : w.cell? ⟨B, 0, none⟩ = some (.int .i64 3) := by rw [cell_of_heap hB]; rfl
  have hcB : ¬ RB2 b B c := fun e => by
    rcases e with e | e
    · obtain ⟨_, _, _, h3⟩ := h; exact h3 (e ▸ hSb)
    · exact hBc e.symm
  have D0 : Hid (CodR w S c b st) := h
  have B0 := Lib.hid hB
  have G0 : Hid (Chg (RB2 b B) w w) := Chg.refl _ _
  clear h hB
  go_enter Try.func66, Try.ntmps66
  go_wp2_with fail
  clear a0
  refine wpT.begin (fun k => RB2 b B k ∨ w.heap.size ≤ k) 9 (by kernel_rfl) rfl ?_
  refine wpT.take 0 rfl (by kernel_rfl) (fun _ _ _ h => h) rfl (fun w' hw' => by go_simp <;> with_reducible rfl) ?_
  simp only [Act.put, List.setIfInBounds_toArray, List.set_cons_zero, List.set_cons_succ]
  refine wpT.take 1 rfl (by kernel_rfl) (fun _ _ _ h => h) rfl (fun w' hw' => by go_simp <;> with_reducible rfl) ?_
  simp only [Act.put, List.setIfInBounds_toArray, List.set_cons_zero, List.set_cons_succ]
  refine wpT.take 2 rfl (by kernel_rfl) (fun _ _ _ h => h) rfl (fun w' hw' => by go_simp <;> with_reducible rfl) ?_
  simp only [Act.put, List.setIfInBounds_toArray, List.set_cons_zero, List.set_cons_succ]
  refine wpT.take 3 rfl (by kernel_rfl) (fun _ _ _ h => h) rfl (fun w' hw' => by go_simp <;> with_reducible rfl) ?_
  simp only [Act.put, List.setIfInBounds_toArray, List.set_cons_zero, List.set_cons_succ]
  refine wpT.take 4 rfl (by kernel_rfl) (fun _ _ _ h => h) rfl (fun w' hw' => by go_simp <;> with_reducible rfl) ?_
  simp only [Act.put, List.setIfInBounds_toArray, List.set_cons_zero, List.set_cons_succ]
  refine wpT.take 5 rfl (by kernel_rfl) (fun _ _ _ h => h) rfl (fun w' hw' => by go_simp <;> with_reducible rfl) ?_
  simp only [Act.put, List.setIfInBounds_toArray, List.set_cons_zero, List.set_cons_succ]
  refine wpT.take 6 rfl (by kernel_rfl) (fun _ _ _ h => h) rfl (fun w' hw' => by go_simp <;> with_reducible rfl) ?_
  simp only [Act.put, List.setIfInBounds_toArray, List.set_cons_zero, List.set_cons_succ]
  refine wpT.call 7 rfl (by kernel_rfl) rfl (fun K hK => ?_)
  go_wp2_with fail
  refine hK _ _ ((Chg.refl _ _).alloc _) ?_
  clear hK
  try (simp only [Act.put, List.setIfInBounds_toArray, List.set_cons_zero, List.set_cons_succ])
  have cA : Chg (fun _ => False) w (w.drew.alloc (.cells #[.pointer (some ⟨B, 1, none⟩), .pointer (some ⟨B, 2, none⟩)] 170)) := ((Chg.refl _ w).drew).alloc _
  have hR := reads_lit w.drew 170 [.pointer (some ⟨B, 1, none⟩), .pointer (some ⟨B, 2, none⟩)] 2 rfl (by omega)
  have zG := G0.out.size
  refine wpT.call 8 rfl (by kernel_rfl) rfl (fun K hK => ?_)
  go_wp2_with fail
  refine (rctexts_any _ S c b st B (kz 3) T _ [1, 2] (D0.out.kept cA (fun _ _ h => h) (fun h => h)) (cA.heap B0.out (fun h => h)) hBS hBc hR (fun q hq => ?_) (fun p hp => ?_) (by simp) hl).mono ?_
  · have hq' : w.heap.size = q := by simpa [Value.ownBlock] using hq
    subst hq'
    intro hq2
    rcases hq2 with hq2 | hq2
    · omega
    · omega
  · simp only [List.mem_cons, List.not_mem_nil, or_false] at hp
    rcases hp with rfl | rfl <;> simp [kz]
  rintro e' w1 ⟨rfl, d, hb, g⟩
  refine hK _ _ (g.mono (fun k _ h => .inl h)) ?_
  clear hK
  refine wpT.done (by kernel_rfl) ?_
  have g1 : Chg (RB2 b B) w w1 := (G0.out.trans (cA.mono (fun _ _ h => h.elim))).trans g
  simp only [List.foldl_cons, List.foldl_nil, rtS] at d hb
  have hn1 := rdText_len 255 st
  obtain ⟨⟨v1, s1⟩, e1⟩ : ∃ r, r = rdText 255 st := ⟨_, rfl⟩
  rw [← e1] at hn1 d hb
  simp only at hn1 d hb
  have hl1 : s1.1.length ≤ 140737488355328 := by omega
  have E1 := Lib.hid e1
  clear e1
  have hn2 := rdText_len 255 s1
  obtain ⟨⟨v2, s2⟩, e2⟩ : ∃ r, r = rdText 255 s1 := ⟨_, rfl⟩
  rw [← e2] at hn2 d hb
  simp only at hn2 d hb
  have hl2 : s2.1.length ≤ 140737488355328 := by omega
  have E2 := Lib.hid e2
  clear e2
  have D1 : Hid (CodR w1 S c b s2) := d
  have B1 : Hid (w1.heap[B]? = some (.cells (((kz 3).setIfInBounds 1 (.string ⟨v1.toArray⟩)).setIfInBounds 2 (.string ⟨v2.toArray⟩)) T (0, 0))) := hb
  have G1 := Lib.hid g1
  clear d hb g g1
  clear cA hR zG
  go_wp2_with fail
  refine (rcpoints_any w1 S c b s2 B 4 (((kz 3).setIfInBounds 1 (.string ⟨v1.toArray⟩)).setIfInBounds 2 (.string ⟨v2.toArray⟩)) T D1.out (fun k hk => Nat.lt_of_lt_of_le (hS k hk) G1.out.size) B1.out hBS hBc (by simp [kz]) hl2).mono ?_
  rintro e' w2 ⟨pa, pn, pc, rfl, d, hb, hpr, hpn, g⟩
  have g2 : Chg (RB2 b B) w w2 := G1.out.trans g
  have zP := G1.out.size
  have hn3 := rdPts_len s2
  obtain ⟨⟨v3, s3⟩, e3⟩ : ∃ r, r = rdPts s2 := ⟨_, rfl⟩
  rw [← e3] at hn3 d hpr
  simp only at hn3 d hpr
  have hl3 : s3.1.length ≤ 140737488355328 := by omega
  have E3 := Lib.hid e3
  clear e3
  have D2 : Hid (CodR w2 S c b s3) := d
  have B2 : Hid (w2.heap[B]? = some (.cells ((((kz 3).setIfInBounds 1 (.string ⟨v1.toArray⟩)).setIfInBounds 2 (.string ⟨v2.toArray⟩)).setIfInBounds 4 (.slice pa pn pc)) T (0, 0))) := hb
  have G2 := Lib.hid g2
  clear d hb g g2
  have HPR := Lib.hid hpr
  have HPN := Lib.hid hpn
  clear hpr hpn
  go_wp2_with fail
  go_end0
  have hrun : rdc 3 (.slice pa pn pc) st = (⟨3, v1, v2, [], .slice pa pn pc, 0, 0, 0, 0, 0, [], [], 0, 0, 0, 0, 0⟩, v3, s3) := by
    simp [rdc, ← E1.out, ← E2.out, ← E3.out]
  refine ⟨.slice pa pn pc, rfl, ?_, ?_, ?_, ?_, ?_, G2.out⟩
  all_goals (try rw [hrun])
  · exact D2.out
  · exact B2.out
  · exact HPR.out
  · intro k hk; have := HPN.out k hk; omega

set_option maxRecDepth 100000 in
set_option maxHeartbeats 1000000 in
theorem rfields_4 (w : World) (S : Nat → Prop) (c b : Nat) (st : RS) (B : Nat) (T : TypeId) (h : CodR w S c b st) (hS : ∀ k, S k → k < w.heap.size) (hB : w.heap[B]? = some (.cells (kz 4) T (0, 0))) (hBS : ¬ S B) (hBc : B ≠ c) (hl : st.1.length ≤ 140737488355328) :
    Calls Try.prog 66 #[.pointer (some ⟨c, 0, none⟩), .pointer (some ⟨B, 0, none⟩)] w fun e' w' => ∃ pv, e' = .returned (.tuple #[]) ∧ CodR w' S c b (rdc 4 pv st).2.2 ∧ w'.heap[B]? = some (.cells (rdc 4 pv st).1.cells.toArray T (0, 0)) ∧ Reads w' 2 pv (rdc 4 pv st).2.1.length ((rdc 4 pv st).2.1.flatMap Pnt.cells) ∧ (∀ k, pv.ownBlock = some k → w.heap.size ≤ k) ∧ (rdc 4 pv st).1.pv = pv ∧ Chg (RB2 b B) w w' := by
  have hSb : S b := h.sb
  have hbl := hS b hSb
  have hBl : B < w.heap.size := (Array.getElem?_eq_some_iff.1 hB).1
  have a0 : w.cell? ⟨B, 0, none⟩ = some (.int .i64 4) := by rw [cell_of_heap hB]; rfl
  have hcB : ¬ RB2 b B c := fun e => by
    rcases e with e | e
    · obtain ⟨_, _, _, h3⟩ := h; exact h3 (e ▸ hSb)
    · exact hBc e.symm
  have D0 : Hid (CodR w S c b st) := h
  have B0 := Lib.hid hB
  have G0 : Hid (Chg (RB2 b B) w w) := Chg.refl _ _
  clear h hB
  go_enter Try.func66, Try.ntmps66
  go_wp2_with fail
  clear a0
  refine (rctext_any w S c b st B 1 (kz 4) T D0.out B0.out hBS hBc (by simp [kz]) hl).mono ?_
  rintro e' w1 ⟨rfl, d, hb, g⟩
  have g1 : Chg (RB2 b B) w w1 := G0.out.trans g
  have hn1 := rdText_len 255 st
  obtain ⟨⟨v1, s1⟩, e1⟩ : ∃ r, r = rdText 255 st := ⟨_, rfl⟩
  rw [← e1] at hn1 d hb
  simp only at hn1 d hb
  have hl1 : s1.1.length ≤ 140737488355328 := by omega
  have E1 := Lib.hid e1
  clear e1
  have D1 : Hid (CodR w1 S c b s1) := d
  have B1 : Hid (w1.heap[B]? = some (.cells ((kz 4).setIfInBounds 1 (.string ⟨v1.toArray⟩)) T (0, 0))) := hb
  have G1 := Lib.hid g1
  clear d hb g g1
  go_wp2_with fail
  refine wpT.begin (fun k => RB2 b B k ∨ w1.heap.size ≤ k) 15 (by kernel_rfl) rfl ?_
  refine wpT.take 0 rfl (by kernel_rfl) (fun _ _ _ h => h) rfl (fun w' hw' => by go_simp <;> with_reducible rfl) ?_
  simp only [Act.put, List.setIfInBounds_toArray, List.set_cons_zero, List.set_cons_succ]
  refine wpT.take 1 rfl (by kernel_rfl) (fun _ _ _ h => h) rfl (fun w' hw' => by go_simp <;> with_reducible rfl) ?_
  simp only [Act.put, List.setIfInBounds_toArray, List.set_cons_zero, List.set_cons_succ]
  refine wpT.take 2 rfl (by kernel_rfl) (fun _ _ _ h => h) rfl (fun w' hw' => by go_simp <;> with_reducible rfl) ?_
  simp only [Act.put, List.setIfInBounds_toArray, List.set_cons_zero, List.set_cons_succ]
  refine wpT.take 3 rfl (by kernel_rfl) (fun _ _ _ h => h) rfl (fun w' hw' => by go_simp <;> with_reducible rfl) ?_
  simp only [Act.put, List.setIfInBounds_toArray, List.set_cons_zero, List.set_cons_succ]
  refine wpT.take 4 rfl (by kernel_rfl) (fun _ _ _ h => h) rfl (fun w' hw' => by go_simp <;> with_reducible rfl) ?_
  simp only [Act.put, List.setIfInBounds_toArray, List.set_cons_zero, List.set_cons_succ]
  refine wpT.take 5 rfl (by kernel_rfl) (fun _ _ _ h => h) rfl (fun w' hw' => by go_simp <;> with_reducible rfl) ?_
  simp only [Act.put, List.setIfInBounds_toArray, List.set_cons_zero, List.set_cons_succ]
  refine wpT.take 6 rfl (by kernel_rfl) (fun _ _ _ h => h) rfl (fun w' hw' => by go_simp <;> with_reducible rfl) ?_
  simp only [Act.put, List.setIfInBounds_toArray, List.set_cons_zero, List.set_cons_succ]
  refine wpT.take 7 rfl (by kernel_rfl) (fun _ _ _ h => h) rfl (fun w' hw' => by go_simp <;> with_reducible rfl) ?_
  simp only [Act.put, List.setIfInBounds_toArray, List.set_cons_zero, List.set_cons_succ]
  refine wpT.take 8 rfl (by kernel_rfl) (fun _ _ _ h => h) rfl (fun w' hw' => by go_simp <;> with_reducible rfl) ?_
  simp only [Act.put, List.setIfInBounds_toArray, List.set_cons_zero, List.set_cons_succ]
  refine wpT.take 9 rfl (by kernel_rfl) (fun _ _ _ h => h) rfl (fun w' hw' => by go_simp <;> with_reducible rfl) ?_
  simp only [Act.put, List.setIfInBounds_toArray, List.set_cons_zero, List.set_cons_succ]
  refine wpT.take 10 rfl (by kernel_rfl) (fun _ _ _ h => h) rfl (fun w' hw' => by go_simp <;> with_reducible rfl) ?_
  simp only [Act.put, List.setIfInBounds_toArray, List.set_cons_zero, List.set_cons_succ]
  refine wpT.take 11 rfl (by kernel_rfl) (fun _ _ _ h => h) rfl (fun w' hw' => by go_simp <;> with_reducible rfl) ?_
  simp only [Act.put, List.setIfInBounds_toArray, List.set_cons_zero, List.set_cons_succ]
  refine wpT.take 12 rfl (by kernel_rfl) (fun _ _ _ h => h) rfl (fun w' hw' => by go_simp <;> with_reducible rfl) ?_
  simp only [Act.put, List.setIfInBounds_toArray, List.set_cons_zero, List.set_cons_succ]
  refine wpT.call 13 rfl (by kernel_rfl) rfl (fun K hK => ?_)
  go_wp2_with fail
  refine hK _ _ ((Chg.refl _ _).alloc _) ?_
  clear hK
  try (simp only [Act.put, List.setIfInBounds_toArray, List.set_cons_zero, List.set_cons_succ])
  have cA : Chg (fun _ => False) w1 (w1.drew.alloc (.cells #[.pointer (some ⟨B, 7, none⟩), .pointer (some ⟨B, 8, none⟩), .pointer (some ⟨B, 9, none⟩)] 172)) := ((Chg.refl _ w1).drew).alloc _
  have hR := reads_lit w1.drew 172 [.pointer (some ⟨B, 7, none⟩), .pointer (some ⟨B, 8, none⟩), .pointer (some ⟨B, 9, none⟩)] 3 rfl (by omega)
  have zG := G1.out.size
  refine wpT.call 14 rfl (by kernel_rfl) rfl (fun K hK => ?_)
  go_wp2_with fail
  refine (rcints_any _ S c b s1 B ((kz 4).setIfInBounds 1 (.string ⟨v1.toArray⟩)) T _ [7, 8, 9] (D1.out.kept cA (fun _ _ h => h) (fun h => h)) (cA.heap B1.out (fun h => h)) hBS hBc hR (fun q hq => ?_) (fun p hp => ?_) (by simp) hl1).mono ?_
  · have hq' : w1.heap.size = q := by simpa [Value.ownBlock] using hq
    subst hq'
    intro hq2
    rcases hq2 with hq2 | hq2
    · omega
    · omega
  · simp only [List.mem_cons, List.not_mem_nil, or_false] at hp
    rcases hp with rfl | rfl | rfl <;> simp [kz]
  rintro e' w2 ⟨rfl, d, hb, g⟩
  refine hK _ _ (g.mono (fun k _ h => .inl h)) ?_
  clear hK
  refine wpT.done (by kernel_rfl) ?_
  have g2 : Chg (RB2 b B) w w2 := (G1.out.trans (cA.mono (fun _ _ h => h.elim))).trans g
  simp only [List.foldl_cons, List.foldl_nil, riS] at d hb
  have hn2 := rdInt_len s1
  obtain ⟨⟨v2, s2⟩, e2⟩ : ∃ r, r = rdInt s1 := ⟨_, rfl⟩
  rw [← e2] at hn2 d hb
  simp only at hn2 d hb
  have hl2 : s2.1.length ≤ 140737488355328 := by omega
  have E2 := Lib.hid e2
  clear e2
  have hn3 := rdInt_len s2
  obtain ⟨⟨v3, s3⟩, e3⟩ : ∃ r, r = rdInt s2 := ⟨_, rfl⟩
  rw [← e3] at hn3 d hb
  simp only at hn3 d hb
  have hl3 : s3.1.length ≤ 140737488355328 := by omega
  have E3 := Lib.hid e3
  clear e3
  have hn4 := rdInt_len s3
  obtain ⟨⟨v4, s4⟩, e4⟩ : ∃ r, r = rdInt s3 := ⟨_, rfl⟩
  rw [← e4] at hn4 d hb
  simp only at hn4 d hb
  have hl4 : s4.1.length ≤ 140737488355328 := by omega
  have E4 := Lib.hid e4
  clear e4
  have D2 : Hid (CodR w2 S c b s4) := d
  have B2 : Hid (w2.heap[B]? = some (.cells (((((kz 4).setIfInBounds 1 (.string ⟨v1.toArray⟩)).setIfInBounds 7 (.int .i64 v2)).setIfInBounds 8 (.int .i64 v3)).setIfInBounds 9 (.int .i64 v4)) T (0, 0))) := hb
  have G2 := Lib.hid g2
  clear d hb g g2
  clear cA hR zG
  go_wp2_with fail
  go_end0
  have hrun : rdc 4 (.slice none 0 0) st = (⟨4, v1, [], [], .slice none 0 0, 0, 0, v2, v3, v4, [], [], 0, 0, 0, 0, 0⟩, [], s4) := by
    simp [rdc, ← E1.out, ← E2.out, ← E3.out, ← E4.out]
  refine ⟨.slice none 0 0, rfl, ?_, ?_, ?_, ?_, ?_, G2.out⟩
  all_goals (try rw [hrun])
  · exact D2.out
  · exact B2.out
  · exact Reads.nil _ 2
  · intro k hk; simp [Value.ownBlock] at hk

set_option maxRecDepth 100000 in
set_option maxHeartbeats 1000000 in
theorem rfields_5 (w : World) (S : Nat → Prop) (c b : Nat) (st : RS) (B : Nat) (T : TypeId) (h : CodR w S c b st) (hS : ∀ k, S k → k < w.heap.size) (hB : w.heap[B]? = some (.cells (kz 5) T (0, 0))) (hBS : ¬ S B) (hBc : B ≠ c) (hl : st.1.length ≤ 140737488355328) :
    Calls Try.prog 66 #[.pointer (some ⟨c, 0, none⟩), .pointer (some ⟨B, 0, none⟩)] w fun e' w' => ∃ pv, e' = .returned (.tuple #[]) ∧ CodR w' S c b (rdc 5 pv st).2.2 ∧ w'.heap[B]? = some (.cells (rdc 5 pv st).1.cells.toArray T (0, 0)) ∧ Reads w' 2 pv (rdc 5 pv st).2.1.length ((rdc 5 pv st).2.1.flatMap Pnt.cells) ∧ (∀ k, pv.ownBlock = some k → w.heap.size ≤ k) ∧ (rdc 5 pv st).1.pv = pv ∧ Chg (RB2 b B) w w' := by
  have hSb : S b := h.sb
  have hbl := hS b hSb
  have hBl : B < w.heap.size := (Array.getElem?_eq_some_iff.1 hB).1
  have a0 : w.cell? ⟨B, 0, none⟩ = some (.int .i64 5) := by rw [cell_of_heap hB]; rfl
  have hcB : ¬ RB2 b B c := fun e => by
    rcases e with e | e
    · obtain ⟨_, _, _, h3⟩ := h; exact h3 (e ▸ hSb)
    · exact hBc e.symm
  have D0 : Hid (CodR w S c b st) := h
  have B0 := Lib.hid hB
  have G0 : Hid (Chg (RB2 b B) w w) := Chg.refl _ _
  clear h hB
  go_enter Try.func66, Try.ntmps66
  go_wp2_with fail
  clear a0
  refine wpT.begin (fun k => RB2 b B k ∨ w.heap.size ≤ k) 14 (by kernel_rfl) rfl ?_
  refine wpT.take 0 rfl (by kernel_rfl) (fun _ _ _ h => h) rfl (fun w' hw' => by go_simp <;> with_reducible rfl) ?_
  simp only [Act.put, List.setIfInBounds_toArray, List.set_cons_zero, List.set_cons_succ]
  refine wpT.take 1 rfl (by kernel_rfl) (fun _ _ _ h => h) rfl (fun w' hw' => by go_simp <;> with_reducible rfl) ?_
  simp only [Act.put, List.setIfInBounds_toArray, List.set_cons_zero, List.set_cons_succ]
  refine wpT.take 2 rfl (by kernel_rfl) (fun _ _ _ h => h) rfl (fun w' hw' => by go_simp <;> with_reducible rfl) ?_
  simp only [Act.put, List.setIfInBounds_toArray, List.set_cons_zero, List.set_cons_succ]
  refine wpT.take 3 rfl (by kernel_rfl) (fun _ _ _ h => h) rfl (fun w' hw' => by go_simp <;> with_reducible rfl) ?_
  simp only [Act.put, List.setIfInBounds_toArray, List.set_cons_zero, List.set_cons_succ]
  refine wpT.take 4 rfl (by kernel_rfl) (fun _ _ _ h => h) rfl (fun w' hw' => by go_simp <;> with_reducible rfl) ?_
  simp only [Act.put, List.setIfInBounds_toArray, List.set_cons_zero, List.set_cons_succ]
  refine wpT.take 5 rfl (by kernel_rfl) (fun _ _ _ h => h) rfl (fun w' hw' => by go_simp <;> with_reducible rfl) ?_
  simp only [Act.put, List.setIfInBounds_toArray, List.set_cons_zero, List.set_cons_succ]
  refine wpT.take 6 rfl (by kernel_rfl) (fun _ _ _ h => h) rfl (fun w' hw' => by go_simp <;> with_reducible rfl) ?_
  simp only [Act.put, List.setIfInBounds_toArray, List.set_cons_zero, List.set_cons_succ]
  refine wpT.take 7 rfl (by kernel_rfl) (fun _ _ _ h => h) rfl (fun w' hw' => by go_simp <;> with_reducible rfl) ?_
  simp only [Act.put, List.setIfInBounds_toArray, List.set_cons_zero, List.set_cons_succ]
  refine wpT.take 8 rfl (by kernel_rfl) (fun _ _ _ h => h) rfl (fun w' hw' => by go_simp <;> with_reducible rfl) ?_
  simp only [Act.put, List.setIfInBounds_toArray, List.set_cons_zero, List.set_cons_succ]
  refine wpT.take 9 rfl (by kernel_rfl) (fun _ _ _ h => h) rfl (fun w' hw' => by go_simp <;> with_reducible rfl) ?_
  simp only [Act.put, List.setIfInBounds_toArray, List.set_cons_zero, List.set_cons_succ]
  refine wpT.take 10 rfl (by kernel_rfl) (fun _ _ _ h => h) rfl (fun w' hw' => by go_simp <;> with_reducible rfl) ?_
  simp only [Act.put, List.setIfInBounds_toArray, List.set_cons_zero, List.set_cons_succ]
  refine wpT.take 11 rfl (by kernel_rfl) (fun _ _ _ h => h) rfl (fun w' hw' => by go_simp <;> with_reducible rfl) ?_
  simp only [Act.put, List.setIfInBounds_toArray, List.set_cons_zero, List.set_cons_succ]
  refine wpT.call 12 rfl (by kernel_rfl) rfl (fun K hK => ?_)
  go_wp2_with fail
  refine hK _ _ ((Chg.refl _ _).alloc _) ?_
  clear hK
  try (simp only [Act.put, List.setIfInBounds_toArray, List.set_cons_zero, List.set_cons_succ])
  have cA : Chg (fun _ => False) w (w.drew.alloc (.cells #[.pointer (some ⟨B, 1, none⟩), .pointer (some ⟨B, 10, none⟩), .pointer (some ⟨B, 11, none⟩)] 170)) := ((Chg.refl _ w).drew).alloc _
  have hR := reads_lit w.drew 170 [.pointer (some ⟨B, 1, none⟩), .pointer (some ⟨B, 10, none⟩), .pointer (some ⟨B, 11, none⟩)] 3 rfl (by omega)
  have zG := G0.out.size
  refine wpT.call 13 rfl (by kernel_rfl) rfl (fun K hK => ?_)
  go_wp2_with fail
  refine (rctexts_any _ S c b st B (kz 5) T _ [1, 10, 11] (D0.out.kept cA (fun _ _ h => h) (fun h => h)) (cA.heap B0.out (fun h => h)) hBS hBc hR (fun q hq => ?_) (fun p hp => ?_) (by simp) hl).mono ?_
  · have hq' : w.heap.size = q := by simpa [Value.ownBlock] using hq
    subst hq'
    intro hq2
    rcases hq2 with hq2 | hq2
    · omega
    · omega
  · simp only [List.mem_cons, List.not_mem_nil, or_false] at hp
    rcases hp with rfl | rfl | rfl <;> simp [kz]
  rintro e' w1 ⟨rfl, d, hb, g⟩
  refine hK _ _ (g.mono (fun k _ h => .inl h)) ?_
  clear hK
  refine wpT.done (by kernel_rfl) ?_
  have g1 : Chg (RB2 b B) w w1 := (G0.out.trans (cA.mono (fun _ _ h => h.elim))).trans g
  simp only [List.foldl_cons, List.foldl_nil, rtS] at d hb
  have hn1 := rdText_len 255 st
  obtain ⟨⟨v1, s1⟩, e1⟩ : ∃ r, r = rdText 255 st := ⟨_, rfl⟩
  rw [← e1] at hn1 d hb
  simp only at hn1 d hb
  have hl1 : s1.1.length ≤ 140737488355328 := by omega
  have E1 := Lib.hid e1
  clear e1
  have hn2 := rdText_len 255 s1
  obtain ⟨⟨v2, s2⟩, e2⟩ : ∃ r, r = rdText 255 s1 := ⟨_, rfl⟩
  rw [← e2] at hn2 d hb
  simp only at hn2 d hb
  have hl2 : s2.1.length ≤ 140737488355328 := by omega
  have E2 := Lib.hid e2
  clear e2
  have hn3 := rdText_len 255 s2
  obtain ⟨⟨v3, s3⟩, e3⟩ : ∃ r, r = rdText 255 s2 := ⟨_, rfl⟩
  rw [← e3] at hn3 d hb
  simp only at hn3 d hb
  have hl3 : s3.1.length ≤ 140737488355328 := by omega
  have E3 := Lib.hid e3
  clear e3
  have D1 : Hid (CodR w1 S c b s3) := d
  have B1 : Hid (w1.heap[B]? = some (.cells ((((kz 5).setIfInBounds 1 (.string ⟨v1.toArray⟩)).setIfInBounds 10 (.string ⟨v2.toArray⟩)).setIfInBounds 11 (.string ⟨v3.toArray⟩)) T (0, 0))) := hb
  have G1 := Lib.hid g1
  clear d hb g g1
  clear cA hR zG
  go_wp2_with fail
  refine wpT.begin (fun k => RB2 b B k ∨ w1.heap.size ≤ k) 13 (by kernel_rfl) rfl ?_
  refine wpT.take 0 rfl (by kernel_rfl) (fun _ _ _ h => h) rfl (fun w' hw' => by go_simp <;> with_reducible rfl) ?_
  simp only [Act.put, List.setIfInBounds_toArray, List.set_cons_zero, List.set_cons_succ]
  refine wpT.take 1 rfl (by kernel_rfl) (fun _ _ _ h => h) rfl (fun w' hw' => by go_simp <;> with_reducible rfl) ?_
  simp only [Act.put, List.setIfInBounds_toArray, List.set_cons_zero, List.set_cons_succ]
  refine wpT.take 2 rfl (by kernel_rfl) (fun _ _ _ h => h) rfl (fun w' hw' => by go_simp <;> with_reducible rfl) ?_
  simp only [Act.put, List.setIfInBounds_toArray, List.set_cons_zero, List.set_cons_succ]
  refine wpT.take 3 rfl (by kernel_rfl) (fun _ _ _ h => h) rfl (fun w' hw' => by go_simp <;> with_reducible rfl) ?_
  simp only [Act.put, List.setIfInBounds_toArray, List.set_cons_zero, List.set_cons_succ]
  refine wpT.take 4 rfl (by kernel_rfl) (fun _ _ _ h => h) rfl (fun w' hw' => by go_simp <;> with_reducible rfl) ?_
  simp only [Act.put, List.setIfInBounds_toArray, List.set_cons_zero, List.set_cons_succ]
  refine wpT.take 5 rfl (by kernel_rfl) (fun _ _ _ h => h) rfl (fun w' hw' => by go_simp <;> with_reducible rfl) ?_
  simp only [Act.put, List.setIfInBounds_toArray, List.set_cons_zero, List.set_cons_succ]
  refine wpT.take 6 rfl (by kernel_rfl) (fun _ _ _ h => h) rfl (fun w' hw' => by go_simp <;> with_reducible rfl) ?_
  simp only [Act.put, List.setIfInBounds_toArray, List.set_cons_zero, List.set_cons_succ]
  refine wpT.take 7 rfl (by kernel_rfl) (fun _ _ _ h => h) rfl (fun w' hw' => by go_simp <;> with_reducible rfl) ?_
  simp only [Act.put, List.setIfInBounds_toArray, List.set_cons_zero, List.set_cons_succ]
  refine wpT.take 8 rfl (by kernel_rfl) (fun _ _ _ h => h) rfl (fun w' hw' => by go_simp <;> with_reducible rfl) ?_
  simp only [Act.put, List.setIfInBounds_toArray, List.set_cons_zero, List.set_cons_succ]
  refine wpT.take 9 rfl (by kernel_rfl) (fun _ _ _ h => h) rfl (fun w' hw' => by go_simp <;> with_reducible rfl) ?_
  simp only [Act.put, List.setIfInBounds_toArray, List.set_cons_zero, List.set_cons_succ]
  refine wpT.take 10 rfl (by kernel_rfl) (fun _ _ _ h => h) rfl (fun w' hw' => by go_simp <;> with_reducible rfl) ?_
  simp only [Act.put, List.setIfInBounds_toArray, List.set_cons_zero, List.set_cons_succ]
  refine wpT.call 11 rfl (by kernel_rfl) rfl (fun K hK => ?_)
  go_wp2_with fail
  refine hK _ _ ((Chg.refl _ _).alloc _) ?_
  clear hK
  try (simp only [Act.put, List.setIfInBounds_toArray, List.set_cons_zero, List.set_cons_succ])
  have cA : Chg (fun _ => False) w1 (w1.drew.alloc (.cells #[.pointer (some ⟨B, 12, none⟩), .pointer (some ⟨B, 13, none⟩)] 172)) := ((Chg.refl _ w1).drew).alloc _
  have hR := reads_lit w1.drew 172 [.pointer (some ⟨B, 12, none⟩), .pointer (some ⟨B, 13, none⟩)] 2 rfl (by omega)
  have zG := G1.out.size
  refine wpT.call 12 rfl (by kernel_rfl) rfl (fun K hK => ?_)
  go_wp2_with fail
  refine (rcints_any _ S c b s3 B ((((kz 5).setIfInBounds 1 (.string ⟨v1.toArray⟩)).setIfInBounds 10 (.string ⟨v2.toArray⟩)).setIfInBounds 11 (.string ⟨v3.toArray⟩)) T _ [12, 13] (D1.out.kept cA (fun _ _ h => h) (fun h => h)) (cA.heap B1.out (fun h => h)) hBS hBc hR (fun q hq => ?_) (fun p hp => ?_) (by simp) hl3).mono ?_
  · have hq' : w1.heap.size = q := by simpa [Value.ownBlock] using hq
    subst hq'
    intro hq2
    rcases hq2 with hq2 | hq2
    · omega
    · omega
  · simp only [List.mem_cons, List.not_mem_nil, or_false] at hp
    rcases hp with rfl | rfl <;> simp [kz]
  rintro e' w2 ⟨rfl, d, hb, g⟩
  refine hK _ _ (g.mono (fun k _ h => .inl h)) ?_
  clear hK
  refine wpT.done (by kernel_rfl) ?_
  have g2 : Chg (RB2 b B) w w2 := (G1.out.trans (cA.mono (fun _ _ h => h.elim))).trans g
  simp only [List.foldl_cons, List.foldl_nil, riS] at d hb
  have hn4 := rdInt_len s3
  obtain ⟨⟨v4, s4⟩, e4⟩ : ∃ r, r = rdInt s3 := ⟨_, rfl⟩
  rw [← e4] at hn4 d hb
  simp only at hn4 d hb
  have hl4 : s4.1.length ≤ 140737488355328 := by omega
  have E4 := Lib.hid e4
  clear e4
  have hn5 := rdInt_len s4
  obtain ⟨⟨v5, s5⟩, e5⟩ : ∃ r, r = rdInt s4 := ⟨_, rfl⟩
  rw [← e5] at hn5 d hb
  simp only at hn5 d hb
  have hl5 : s5.1.length ≤ 140737488355328 := by omega
  have E5 := Lib.hid e5
  clear e5
  have D2 : Hid (CodR w2 S c b s5) := d
  have B2 : Hid (w2.heap[B]? = some (.cells ((((((kz 5).setIfInBounds 1 (.string ⟨v1.toArray⟩)).setIfInBounds 10 (.string ⟨v2.toArray⟩)).setIfInBounds 11 (.string ⟨v3.toArray⟩)).setIfInBounds 12 (.int .i64 v4)).setIfInBounds 13 (.int .i64 v5)) T (0, 0))) := hb
  have G2 := Lib.hid g2
  clear d hb g g2
  clear cA hR zG
  go_wp2_with fail
  go_end0
  have hrun : rdc 5 (.slice none 0 0) st = (⟨5, v1, [], [], .slice none 0 0, 0, 0, 0, 0, 0, v2, v3, v4, v5, 0, 0, 0⟩, [], s5) := by
    simp [rdc, ← E1.out, ← E2.out, ← E3.out, ← E4.out, ← E5.out]
  refine ⟨.slice none 0 0, rfl, ?_, ?_, ?_, ?_, ?_, G2.out⟩
  all_goals (try rw [hrun])
  · exact D2.out
  · exact B2.out
  · exact Reads.nil _ 2
  · intro k hk; simp [Value.ownBlock] at hk

set_option maxRecDepth 100000 in
set_option maxHeartbeats 1000000 in
theorem rfields_6 (w : World) (S : Nat → Prop) (c b : Nat) (st : RS) (B : Nat) (T : TypeId) (h : CodR w S c b st) (hS : ∀ k, S k → k < w.heap.size) (hB : w.heap[B]? = some (.cells (kz 6) T (0, 0))) (hBS : ¬ S B) (hBc : B ≠ c) (hl : st.1.length ≤ 140737488355328) :
    Calls Try.prog 66 #[.pointer (some ⟨c, 0, none⟩), .pointer (some ⟨B, 0, none⟩)] w fun e' w' => ∃ pv, e' = .returned (.tuple #[]) ∧ CodR w' S c b (rdc 6 pv st).2.2 ∧ w'.heap[B]? = some (.cells (rdc 6 pv st).1.cells.toArray T (0, 0)) ∧ Reads w' 2 pv (rdc 6 pv st).2.1.length ((rdc 6 pv st).2.1.flatMap Pnt.cells) ∧ (∀ k, pv.ownBlock = some k → w.heap.size ≤ k) ∧ (rdc 6 pv st).1.pv = pv ∧ Chg (RB2 b B) w w' := by
  have hSb : S b := h.sb
  have hbl := hS b hSb
  have hBl : B < w.heap.size := (Array.getElem?_eq_some_iff.1 hB).1
  have a0 : w.cell? ⟨B, 0, none⟩ = some (.int .i64 6) := by rw [cell_of_heap hB]; rfl
  have hcB : ¬ RB2 b B c := fun e => by
    rcases e with e | e
    · obtain ⟨_, _, _, h3⟩ := h; exact h3 (e ▸ hSb)
    · exact hBc e.symm
  have D0 : Hid (CodR w S c b st) := h
  have B0 := Lib.hid hB
  have G0 : Hid (Chg (RB2 b B) w w) := Chg.refl _ _
  clear h hB
  go_enter Try.func66, Try.ntmps66
  go_wp2_with fail
  clear a0
  refine wpT.begin (fun k => RB2 b B k ∨ w.heap.size ≤ k) 9 (by kernel_rfl) rfl ?_
  refine wpT.take 0 rfl (by kernel_rfl) (fun _ _ _ h => h) rfl (fun w' hw' => by go_simp <;> with_reducible rfl) ?_
  simp only [Act.put, List.setIfInBounds_toArray, List.set_cons_zero, List.set_cons_succ]
  refine wpT.take 1 rfl (by kernel_rfl) (fun _ _ _ h => h) rfl (fun w' hw' => by go_simp <;> with_reducible rfl) ?_
  simp only [Act.put, List.setIfInBounds_toArray, List.set_cons_zero, List.set_cons_succ]
  refine wpT.take 2 rfl (by kernel_rfl) (fun _ _ _ h => h) rfl (fun w' hw' => by go_simp <;> with_reducible rfl) ?_
  simp only [Act.put, List.setIfInBounds_toArray, List.set_cons_zero, List.set_cons_succ]
  refine wpT.take 3 rfl (by kernel_rfl) (fun _ _ _ h => h) rfl (fun w' hw' => by go_simp <;> with_reducible rfl) ?_
  simp only [Act.put, List.setIfInBounds_toArray, List.set_cons_zero, List.set_cons_succ]
  refine wpT.take 4 rfl (by kernel_rfl) (fun _ _ _ h => h) rfl (fun w' hw' => by go_simp <;> with_reducible rfl) ?_
  simp only [Act.put, List.setIfInBounds_toArray, List.set_cons_zero, List.set_cons_succ]
  refine wpT.take 5 rfl (by kernel_rfl) (fun _ _ _ h => h) rfl (fun w' hw' => by go_simp <;> with_reducible rfl) ?_
  simp only [Act.put, List.setIfInBounds_toArray, List.set_cons_zero, List.set_cons_succ]
  refine wpT.take 6 rfl (by kernel_rfl) (fun _ _ _ h => h) rfl (fun w' hw' => by go_simp <;> with_reducible rfl) ?_
  simp only [Act.put, List.setIfInBounds_toArray, List.set_cons_zero, List.set_cons_succ]
  refine wpT.call 7 rfl (by kernel_rfl) rfl (fun K hK => ?_)
  go_wp2_with fail
  refine hK _ _ ((Chg.refl _ _).alloc _) ?_
  clear hK
  try (simp only [Act.put, List.setIfInBounds_toArray, List.set_cons_zero, List.set_cons_succ])
  have cA : Chg (fun _ => False) w (w.drew.alloc (.cells #[.pointer (some ⟨B, 1, none⟩), .pointer (some ⟨B, 3, none⟩)] 170)) := ((Chg.refl _ w).drew).alloc _
  have hR := reads_lit w.drew 170 [.pointer (some ⟨B, 1, none⟩), .pointer (some ⟨B, 3, none⟩)] 2 rfl (by omega)
  have zG := G0.out.size
  refine wpT.call 8 rfl (by kernel_rfl) rfl (fun K hK => ?_)
  go_wp2_with fail
  refine (rctexts_any _ S c b st B (kz 6) T _ [1, 3] (D0.out.kept cA (fun _ _ h => h) (fun h => h)) (cA.heap B0.out (fun h => h)) hBS hBc hR (fun q hq => ?_) (fun p hp => ?_) (by simp) hl).mono ?_
  · have hq' : w.heap.size = q := by simpa [Value.ownBlock] using hq
    subst hq'
    intro hq2
    rcases hq2 with hq2 | hq2
    · omega
    · omega
  · simp only [List.mem_cons, List.not_mem_nil, or_false] at hp
    rcases hp with rfl | rfl <;> simp [kz]
  rintro e' w1 ⟨rfl, d, hb, g⟩
  refine hK _ _ (g.mono (fun k _ h => .inl h)) ?_
  clear hK
  refine wpT.done (by kernel_rfl) ?_
  have g1 : Chg (RB2 b B) w w1 := (G0.out.trans (cA.mono (fun _ _ h => h.elim))).trans g
  simp only [List.foldl_cons, List.foldl_nil, rtS] at d hb
  have hn1 := rdText_len 255 st
  obtain ⟨⟨v1, s1⟩, e1⟩ : ∃ r, r = rdText 255 st := ⟨_, rfl⟩
  rw [← e1] at hn1 d hb
  simp only at hn1 d hb
  have hl1 : s1.1.length ≤ 140737488355328 := by omega
  have E1 := Lib.hid e1
  clear e1
  have hn2 := rdText_len 255 s1
  obtain ⟨⟨v2, s2⟩, e2⟩ : ∃ r, r = rdText 255 s1 := ⟨_, rfl⟩
  rw [← e2] at hn2 d hb
  simp only at hn2 d hb
  have hl2 : s2.1.length ≤ 140737488355328 := by omega
  have E2 := Lib.hid e2
  clear e2
  have D1 : Hid (CodR w1 S c b s2) := d
  have B1 : Hid (w1.heap[B]? = some (.cells (((kz 6).setIfInBounds 1 (.string ⟨v1.toArray⟩)).setIfInBounds 3 (.string ⟨v2.toArray⟩)) T (0, 0))) := hb
  have G1 := Lib.hid g1
  clear d hb g g1
  clear cA hR zG
  go_wp2_with fail
  go_end0
  have hrun : rdc 6 (.slice none 0 0) st = (⟨6, v1, [], v2, .slice none 0 0, 0, 0, 0, 0, 0, [], [], 0, 0, 0, 0, 0⟩, [], s2) := by
    simp [rdc, ← E1.out, ← E2.out]
  refine ⟨.slice none 0 0, rfl, ?_, ?_, ?_, ?_, ?_, G1.out⟩
  all_goals (try rw [hrun])
  · exact D1.out
  · exact B1.out
  · exact Reads.nil _ 2
  · intro k hk; simp [Value.ownBlock] at hk

set_option maxRecDepth 100000 in
set_option maxHeartbeats 1000000 in
theorem rfields_7 (w : World) (S : Nat → Prop) (c b : Nat) (st : RS) (B : Nat) (T : TypeId) (h : CodR w S c b st) (hS : ∀ k, S k → k < w.heap.size) (hB : w.heap[B]? = some (.cells (kz 7) T (0, 0))) (hBS : ¬ S B) (hBc : B ≠ c) (hl : st.1.length ≤ 140737488355328) :
    Calls Try.prog 66 #[.pointer (some ⟨c, 0, none⟩), .pointer (some ⟨B, 0, none⟩)] w fun e' w' => ∃ pv, e' = .returned (.tuple #[]) ∧ CodR w' S c b (rdc 7 pv st).2.2 ∧ w'.heap[B]? = some (.cells (rdc 7 pv st).1.cells.toArray T (0, 0)) ∧ Reads w' 2 pv (rdc 7 pv st).2.1.length ((rdc 7 pv st).2.1.flatMap Pnt.cells) ∧ (∀ k, pv.ownBlock = some k → w.heap.size ≤ k) ∧ (rdc 7 pv st).1.pv = pv ∧ Chg (RB2 b B) w w' := by
  have hSb : S b := h.sb
  have hbl := hS b hSb
  have hBl : B < w.heap.size := (Array.getElem?_eq_some_iff.1 hB).1
  have a0 : w.cell? ⟨B, 0, none⟩ = some (.int .i64 7) := by rw [cell_of_heap hB]; rfl
  have hcB : ¬ RB2 b B c := fun e => by
    rcases e with e | e
    · obtain ⟨_, _, _, h3⟩ := h; exact h3 (e ▸ hSb)
    · exact hBc e.symm
  have D0 : Hid (CodR w S c b st) := h
  have B0 := Lib.hid hB
  have G0 : Hid (Chg (RB2 b B) w w) := Chg.refl _ _
  clear h hB
  go_enter Try.func66, Try.ntmps66
  go_wp2_with fail
  clear a0
  refine wpT.begin (fun k => RB2 b B k ∨ w.heap.size ≤ k) 9 (by kernel_rfl) rfl ?_
  refine wpT.take 0 rfl (by kernel_rfl) (fun _ _ _ h => h) rfl (fun w' hw' => by go_simp <;> with_reducible rfl) ?_
  simp only [Act.put, List.setIfInBounds_toArray, List.set_cons_zero, List.set_cons_succ]
  refine wpT.take 1 rfl (by kernel_rfl) (fun _ _ _ h => h) rfl (fun w' hw' => by go_simp <;> with_reducible rfl) ?_
  simp only [Act.put, List.setIfInBounds_toArray, List.set_cons_zero, List.set_cons_succ]
  refine wpT.take 2 rfl (by kernel_rfl) (fun _ _ _ h => h) rfl (fun w' hw' => by go_simp <;> with_reducible rfl) ?_
  simp only [Act.put, List.setIfInBounds_toArray, List.set_cons_zero, List.set_cons_succ]
  refine wpT.take 3 rfl (by kernel_rfl) (fun _ _ _ h => h) rfl (fun w' hw' => by go_simp <;> with_reducible rfl) ?_
  simp only [Act.put, List.setIfInBounds_toArray, List.set_cons_zero, List.set_cons_succ]
  refine wpT.take 4 rfl (by kernel_rfl) (fun _ _ _ h => h) rfl (fun w' hw' => by go_simp <;> with_reducible rfl) ?_
  simp only [Act.put, List.setIfInBounds_toArray, List.set_cons_zero, List.set_cons_succ]
  refine wpT.take 5 rfl (by kernel_rfl) (fun _ _ _ h => h) rfl (fun w' hw' => by go_simp <;> with_reducible rfl) ?_
  simp only [Act.put, List.setIfInBounds_toArray, List.set_cons_zero, List.set_cons_succ]
  refine wpT.take 6 rfl (by kernel_rfl) (fun _ _ _ h => h) rfl (fun w' hw' => by go_simp <;> with_reducible rfl) ?_
  simp only [Act.put, List.setIfInBounds_toArray, List.set_cons_zero, List.set_cons_succ]
  refine wpT.call 7 rfl (by kernel_rfl) rfl (fun K hK => ?_)
  go_wp2_with fail
  refine hK _ _ ((Chg.refl _ _).alloc _) ?_
  clear hK
  try (simp only [Act.put, List.setIfInBounds_toArray, List.set_cons_zero, List.set_cons_succ])
  have cA : Chg (fun _ => False) w (w.drew.alloc (.cells #[.pointer (some ⟨B, 1, none⟩), .pointer (some ⟨B, 2, none⟩)] 170)) := ((Chg.refl _ w).drew).alloc _
  have hR := reads_lit w.drew 170 [.pointer (some ⟨B, 1, none⟩), .pointer (some ⟨B, 2, none⟩)] 2 rfl (by omega)
  have zG := G0.out.size
  refine wpT.call 8 rfl (by kernel_rfl) rfl (fun K hK => ?_)
  go_wp2_with fail
  refine (rctexts_any _ S c b st B (kz 7) T _ [1, 2] (D0.out.kept cA (fun _ _ h => h) (fun h => h)) (cA.heap B0.out (fun h => h)) hBS hBc hR (fun q hq => ?_) (fun p hp => ?_) (by simp) hl).mono ?_
  · have hq' : w.heap.size = q := by simpa [Value.ownBlock] using hq
    subst hq'
    intro hq2
    rcases hq2 with hq2 | hq2
    · omega
    · omega
  · simp only [List.mem_cons, List.not_mem_nil, or_false] at hp
    rcases hp with rfl | rfl <;> simp [kz]
  rintro e' w1 ⟨rfl, d, hb, g⟩
  refine hK _ _ (g.mono (fun k _ h => .inl h)) ?_
  clear hK
  refine wpT.done (by kernel_rfl) ?_
  have g1 : Chg (RB2 b B) w w1 := (G0.out.trans (cA.mono (fun _ _ h => h.elim))).trans g
  simp only [List.foldl_cons, List.foldl_nil, rtS] at d hb
  have hn1 := rdText_len 255 st
  obtain ⟨⟨v1, s1⟩, e1⟩ : ∃ r, r = rdText 255 st := ⟨_, rfl⟩
  rw [← e1] at hn1 d hb
  simp only at hn1 d hb
  have hl1 : s1.1.length ≤ 140737488355328 := by omega
  have E1 := Lib.hid e1
  clear e1
  have hn2 := rdText_len 255 s1
  obtain ⟨⟨v2, s2⟩, e2⟩ : ∃ r, r = rdText 255 s1 := ⟨_, rfl⟩
  rw [← e2] at hn2 d hb
  simp only at hn2 d hb
  have hl2 : s2.1.length ≤ 140737488355328 := by omega
  have E2 := Lib.hid e2
  clear e2
  have D1 : Hid (CodR w1 S c b s2) := d
  have B1 : Hid (w1.heap[B]? = some (.cells (((kz 7).setIfInBounds 1 (.string ⟨v1.toArray⟩)).setIfInBounds 2 (.string ⟨v2.toArray⟩)) T (0, 0))) := hb
  have G1 := Lib.hid g1
  clear d hb g g1
  clear cA hR zG
  go_wp2_with fail
  refine wpT.begin (fun k => RB2 b B k ∨ w1.heap.size ≤ k) 11 (by kernel_rfl) rfl ?_
  refine wpT.take 0 rfl (by kernel_rfl) (fun _ _ _ h => h) rfl (fun w' hw' => by go_simp <;> with_reducible rfl) ?_
  simp only [Act.put, List.setIfInBounds_toArray, List.set_cons_zero, List.set_cons_succ]
  refine wpT.take 1 rfl (by kernel_rfl) (fun _ _ _ h => h) rfl (fun w' hw' => by go_simp <;> with_reducible rfl) ?_
  simp only [Act.put, List.setIfInBounds_toArray, List.set_cons_zero, List.set_cons_succ]
  refine wpT.take 2 rfl (by kernel_rfl) (fun _ _ _ h => h) rfl (fun w' hw' => by go_simp <;> with_reducible rfl) ?_
  simp only [Act.put, List.setIfInBounds_toArray, List.set_cons_zero, List.set_cons_succ]
  refine wpT.take 3 rfl (by kernel_rfl) (fun _ _ _ h => h) rfl (fun w' hw' => by go_simp <;> with_reducible rfl) ?_
  simp only [Act.put, List.setIfInBounds_toArray, List.set_cons_zero, List.set_cons_succ]
  refine wpT.take 4 rfl (by kernel_rfl) (fun _ _ _ h => h) rfl (fun w' hw' => by go_simp <;> with_reducible rfl) ?_
  simp only [Act.put, List.setIfInBounds_toArray, List.set_cons_zero, List.set_cons_succ]
  refine wpT.take 5 rfl (by kernel_rfl) (fun _ _ _ h => h) rfl (fun w' hw' => by go_simp <;> with_reducible rfl) ?_
  simp only [Act.put, List.setIfInBounds_toArray, List.set_cons_zero, List.set_cons_succ]
  refine wpT.take 6 rfl (by kernel_rfl) (fun _ _ _ h => h) rfl (fun w' hw' => by go_simp <;> with_reducible rfl) ?_
  simp only [Act.put, List.setIfInBounds_toArray, List.set_cons_zero, List.set_cons_succ]
  refine wpT.take 7 rfl (by kernel_rfl) (fun _ _ _ h => h) rfl (fun w' hw' => by go_simp <;> with_reducible rfl) ?_
  simp only [Act.put, List.setIfInBounds_toArray, List.set_cons_zero, List.set_cons_succ]
  refine wpT.take 8 rfl (by kernel_rfl) (fun _ _ _ h => h) rfl (fun w' hw' => by go_simp <;> with_reducible rfl) ?_
  simp only [Act.put, List.setIfInBounds_toArray, List.set_cons_zero, List.set_cons_succ]
  refine wpT.call 9 rfl (by kernel_rfl) rfl (fun K hK => ?_)
  go_wp2_with fail
  refine hK _ _ ((Chg.refl _ _).alloc _) ?_
  clear hK
  try (simp only [Act.put, List.setIfInBounds_toArray, List.set_cons_zero, List.set_cons_succ])
  have cA : Chg (fun _ => False) w1 (w1.drew.alloc (.cells #[.pointer (some ⟨B, 5, none⟩), .pointer (some ⟨B, 6, none⟩)] 172)) := ((Chg.refl _ w1).drew).alloc _
  have hR := reads_lit w1.drew 172 [.pointer (some ⟨B, 5, none⟩), .pointer (some ⟨B, 6, none⟩)] 2 rfl (by omega)
  have zG := G1.out.size
  refine wpT.call 10 rfl (by kernel_rfl) rfl (fun K hK => ?_)
  go_wp2_with fail
  refine (rcints_any _ S c b s2 B (((kz 7).setIfInBounds 1 (.string ⟨v1.toArray⟩)).setIfInBounds 2 (.string ⟨v2.toArray⟩)) T _ [5, 6] (D1.out.kept cA (fun _ _ h => h) (fun h => h)) (cA.heap B1.out (fun h => h)) hBS hBc hR (fun q hq => ?_) (fun p hp => ?_) (by simp) hl2).mono ?_
  · have hq' : w1.heap.size = q := by simpa [Value.ownBlock] using hq
    subst hq'
    intro hq2
    rcases hq2 with hq2 | hq2
    · omega
    · omega
  · simp only [List.mem_cons, List.not_mem_nil, or_false] at hp
    rcases hp with rfl | rfl <;> simp [kz]
  rintro e' w2 ⟨rfl, d, hb, g⟩
  refine hK _ _ (g.mono (fun k _ h => .inl h)) ?_
  clear hK
  refine wpT.done (by kernel_rfl) ?_
  have g2 : Chg (RB2 b B) w w2 := (G1.out.trans (cA.mono (fun _ _ h => h.elim))).trans g
  simp only [List.foldl_cons, List.foldl_nil, riS] at d hb
  have hn3 := rdInt_len s2
  obtain ⟨⟨v3, s3⟩, e3⟩ : ∃ r, r = rdInt s2 := ⟨_, rfl⟩
  rw [← e3] at hn3 d hb
  simp only at hn3 d hb
  have hl3 : s3.1.length ≤ 140737488355328 := by omega
  have E3 := Lib.hid e3
  clear e3
  have hn4 := rdInt_len s3
  obtain ⟨⟨v4, s4⟩, e4⟩ : ∃ r, r = rdInt s3 := ⟨_, rfl⟩
  rw [← e4] at hn4 d hb
  simp only at hn4 d hb
  have hl4 : s4.1.length ≤ 140737488355328 := by omega
  have E4 := Lib.hid e4
  clear e4
  have D2 : Hid (CodR w2 S c b s4) := d
  have B2 : Hid (w2.heap[B]? = some (.cells (((((kz 7).setIfInBounds 1 (.string ⟨v1.toArray⟩)).setIfInBounds 2 (.string ⟨v2.toArray⟩)).setIfInBounds 5 (.int .i64 v3)).setIfInBounds 6 (.int .i64 v4)) T (0, 0))) := hb
  have G2 := Lib.hid g2
  clear d hb g g2
  clear cA hR zG
  go_wp2_with fail
  go_end0
  have hrun : rdc 7 (.slice none 0 0) st = (⟨7, v1, v2, [], .slice none 0 0, v3, v4, 0, 0, 0, [], [], 0, 0, 0, 0, 0⟩, [], s4) := by
    simp [rdc, ← E1.out, ← E2.out, ← E3.out, ← E4.out]
  refine ⟨.slice none 0 0, rfl, ?_, ?_, ?_, ?_, ?_, G2.out⟩
  all_goals (try rw [hrun])
  · exact D2.out
  · exact B2.out
  · exact Reads.nil _ 2
  · intro k hk; simp [Value.ownBlock] at hk

set_option maxRecDepth 100000 in
set_option maxHeartbeats 1000000 in
theorem rfields_8 (w : World) (S : Nat → Prop) (c b : Nat) (st : RS) (B : Nat) (T : TypeId) (h : CodR w S c b st) (hS : ∀ k, S k → k < w.heap.size) (hB : w.heap[B]? = some (.cells (kz 8) T (0, 0))) (hBS : ¬ S B) (hBc : B ≠ c) (hl : st.1.length ≤ 140737488355328) :
    Calls Try.prog 66 #[.pointer (some ⟨c, 0, none⟩), .pointer (some ⟨B, 0, none⟩)] w fun e' w' => ∃ pv, e' = .returned (.tuple #[]) ∧ CodR w' S c b (rdc 8 pv st).2.2 ∧ w'.heap[B]? = some (.cells (rdc 8 pv st).1.cells.toArray T (0, 0)) ∧ Reads w' 2 pv (rdc 8 pv st).2.1.length ((rdc 8 pv st).2.1.flatMap Pnt.cells) ∧ (∀ k, pv.ownBlock = some k → w.heap.size ≤ k) ∧ (rdc 8 pv st).1.pv = pv ∧ Chg (RB2 b B) w w' := by
  have hSb : S b := h.sb
  have hbl := hS b hSb
  have hBl : B < w.heap.size := (Array.getElem?_eq_some_iff.1 hB).1
  have a0 : w.cell? ⟨B, 0, none⟩ = some (.int .i64 8) := by rw [cell_of_heap hB]; rfl
  have hcB : ¬ RB2 b B c := fun e => by
    rcases e with e | e
    · obtain ⟨_, _, _, h3⟩ := h; exact h3 (e ▸ hSb)
    · exact hBc e.symm
  have D0 : Hid (CodR w S c b st) := h
  have B0 := Lib.hid hB
  have G0 : Hid (Chg (RB2 b B) w w) := Chg.refl _ _
  clear h hB
  go_enter Try.func66, Try.ntmps66
  go_wp2_with fail
  clear a0
  refine (rcint_any w S c b st B 16 (kz 8) T D0.out B0.out hBS hBc (by simp [kz]) hl).mono ?_
  rintro e' w1 ⟨rfl, d, hb, g⟩
  have g1 : Chg (RB2 b B) w w1 := G0.out.trans g
  have hn1 := rdInt_len st
  obtain ⟨⟨v1, s1⟩, e1⟩ : ∃ r, r = rdInt st := ⟨_, rfl⟩
  rw [← e1] at hn1 d hb
  simp only at hn1 d hb
  have hl1 : s1.1.length ≤ 140737488355328 := by omega
  have E1 := Lib.hid e1
  clear e1
  have D1 : Hid (CodR w1 S c b s1) := d
  have B1 : Hid (w1.heap[B]? = some (.cells ((kz 8).setIfInBounds 16 (.int .i64 v1)) T (0, 0))) := hb
  have G1 := Lib.hid g1
  clear d hb g g1
  go_wp2_with fail
  go_end0
  have hrun : rdc 8 (.slice none 0 0) st = (⟨8, [], [], [], .slice none 0 0, 0, 0, 0, 0, 0, [], [], 0, 0, 0, 0, v1⟩, [], s1) := by
    simp [rdc, ← E1.out]
  refine ⟨.slice none 0 0, rfl, ?_, ?_, ?_, ?_, ?_, G1.out⟩
  all_goals (try rw [hrun])
  · exact D1.out
  · exact B1.out
  · exact Reads.nil _ 2
  · intro k hk; simp [Value.ownBlock] at hk

set_option maxRecDepth 100000 in
set_option maxHeartbeats 1000000 in
theorem rfields_9 (w : World) (S : Nat → Prop) (c b : Nat) (st : RS) (B : Nat) (T : TypeId) (h : CodR w S c b st) (hS : ∀ k, S k → k < w.heap.size) (hB : w.heap[B]? = some (.cells (kz 9) T (0, 0))) (hBS : ¬ S B) (hBc : B ≠ c) (hl : st.1.length ≤ 140737488355328) :
    Calls Try.prog 66 #[.pointer (some ⟨c, 0, none⟩), .pointer (some ⟨B, 0, none⟩)] w fun e' w' => ∃ pv, e' = .returned (.tuple #[]) ∧ CodR w' S c b (rdc 9 pv st).2.2 ∧ w'.heap[B]? = some (.cells (rdc 9 pv st).1.cells.toArray T (0, 0)) ∧ Reads w' 2 pv (rdc 9 pv st).2.1.length ((rdc 9 pv st).2.1.flatMap Pnt.cells) ∧ (∀ k, pv.ownBlock = some k → w.heap.size ≤ k) ∧ (rdc 9 pv st).1.pv = pv ∧ Chg (RB2 b B) w w' := by
  have hSb : S b := h.sb
  have hbl := hS b hSb
  have hBl : B < w.heap.size := (Array.getElem?_eq_some_iff.1 hB).1
  have a0 : w.cell? ⟨B, 0, none⟩ = some (.int .i64 9) := by rw [cell_of_heap hB]; rfl
  have hcB : ¬ RB2 b B c := fun e => by
    rcases e with e | e
    · obtain ⟨_, _, _, h3⟩ := h; exact h3 (e ▸ hSb)
    · exact hBc e.symm
  have D0 : Hid (CodR w S c b st) := h
  have B0 := Lib.hid hB
  have G0 : Hid (Chg (RB2 b B) w w) := Chg.refl _ _
  clear h hB
  go_enter Try.func66, Try.ntmps66
  go_wp2_with fail
  clear a0
  refine (rcint_any w S c b st B 14 (kz 9) T D0.out B0.out hBS hBc (by simp [kz]) hl).mono ?_
  rintro e' w1 ⟨rfl, d, hb, g⟩
  have g1 : Chg (RB2 b B) w w1 := G0.out.trans g
  have hn1 := rdInt_len st
  obtain ⟨⟨v1, s1⟩, e1⟩ : ∃ r, r = rdInt st := ⟨_, rfl⟩
  rw [← e1] at hn1 d hb
  simp only at hn1 d hb
  have hl1 : s1.1.length ≤ 140737488355328 := by omega
  have E1 := Lib.hid e1
  clear e1
  have D1 : Hid (CodR w1 S c b s1) := d
  have B1 : Hid (w1.heap[B]? = some (.cells ((kz 9).setIfInBounds 14 (.int .i64 v1)) T (0, 0))) := hb
  have G1 := Lib.hid g1
  clear d hb g g1
  go_wp2_with fail
  go_end0
  have hrun : rdc 9 (.slice none 0 0) st = (⟨9, [], [], [], .slice none 0 0, 0, 0, 0, 0, 0, [], [], 0, 0, v1, 0, 0⟩, [], s1) := by
    simp [rdc, ← E1.out]
  refine ⟨.slice none 0 0, rfl, ?_, ?_, ?_, ?_, ?_, G1.out⟩
  all_goals (try rw [hrun])
  · exact D1.out
  · exact B1.out
  · exact Reads.nil _ 2
  · intro k hk; simp [Value.ownBlock] at hk
end Go.Proofs.Ytjhkhdockiocgaa
