/- Contracts of package command: a coder that reads: int, text, ints, texts. -/
import Derived.Test.YtjhkhdockiocgaaReader3
import Derived.Test.YtjhkhdockiocgaaT
import Derived.Test.YtjhkhdockiocgaaCmd5
namespace Go.Proofs.Ytjhkhdockiocgaa
open Go.RowKit Go.Cat

/-- A coder at c that reads, its reader at b. -/
def CodR (w : World) (S : Nat → Prop) (c b : Nat) (st : RS) : Prop :=
  ∃ T, w.heap[c]? = some (.cells #[.pointer none, .pointer (some ⟨b, 0, none⟩), .int .i64 0] T (0, 0)) ∧ ReaderAt w S b st.1 st.2 ∧ ¬ S c
theorem CodR.kept {w w' : World} {S T : Nat → Prop} {c b : Nat} {st : RS} (h : CodR w S c b st) (hc : Chg T w w') (hs : ∀ k, S k → ¬ T k) (ht : ¬ T c) : CodR w' S c b st := by
  obtain ⟨t, h1, h2, h3⟩ := h
  exact ⟨t, hc.heap h1 ht, h2.kept hc hs, h3⟩
theorem CodR.lt {w : World} {S : Nat → Prop} {c b : Nat} {st : RS} (h : CodR w S c b st) : c < w.heap.size := by
  obtain ⟨t, h1, _⟩ := h
  exact (Array.getElem?_eq_some_iff.1 h1).1
theorem CodR.sb {w : World} {S : Nat → Prop} {c b : Nat} {st : RS} (h : CodR w S c b st) : S b := by
  obtain ⟨t, _, ⟨_, _, _, _, _, h5, _⟩, _⟩ := h
  exact h5
/-- What the two blocks are that a reading coder turns. -/
def RB2 (b B : Nat) (k : Nat) : Prop := k = b ∨ k = B

set_option maxRecDepth 100000 in
set_option maxHeartbeats 1000000 in
theorem rcint_any (w : World) (S : Nat → Prop) (c b : Nat) (st : RS) (B o : Nat) (cs : Array Value) (T : TypeId) (h : CodR w S c b st) (hB : w.heap[B]? = some (.cells cs T (0, 0))) (hBS : ¬ S B) (hBc : B ≠ c) (ho : o < cs.size) (hl : st.1.length ≤ 140737488355328) :
    Calls Try.prog 104 #[.pointer (some ⟨c, 0, none⟩), .pointer (some ⟨B, o, none⟩)] w fun e' w' => e' = .returned (.tuple #[]) ∧ CodR w' S c b (rdInt st).2 ∧ w'.heap[B]? = some (.cells (cs.setIfInBounds o (.int .i64 (rdInt st).1)) T (0, 0)) ∧ Chg (RB2 b B) w w' := by
  obtain ⟨t, h1, h2, h3⟩ := h
  have hSb : S b := by obtain ⟨_, _, _, _, _, h5, _⟩ := h2; exact h5
  have hbB : ¬ B = b := fun e => hBS (e ▸ hSb)
  have hbc : ¬ c = b := fun e => h3 (e ▸ hSb)
  have c1 : w.cell? ⟨c, 1, none⟩ = some (.pointer (some ⟨b, 0, none⟩)) := by rw [cell_of_heap h1]; rfl
  have HC := Lib.hid h1
  have HR := Lib.hid h2
  have HB := Lib.hid hB
  clear h1 h2 hB
  go_enter Try.func104, Try.ntmps104
  go_wp2_with fail
  refine (rint_any _ S b st HR.out hl).mono ?_
  rintro e w2 ⟨rfl, r2, c2⟩
  have hB2 : Hid (w2.heap[B]? = some (.cells cs T (0, 0))) := c2.heap HB.out hbB
  have HC2 := Lib.hid (c2.heap HC.out hbc)
  obtain ⟨x, hx⟩ : ∃ x, x = (rdInt st).1 := ⟨_, rfl⟩
  rw [← hx]
  have HX := Lib.hid hx
  have HR2 := Lib.hid r2
  have q1 : w2.cell? ⟨B, o, none⟩ = some cs[o] := by rw [cell_of_heap hB2.out]; simp [ho]
  have q2 : w2.frozen? ⟨B, o, none⟩ = false := frozen_of_heap hB2.out _
  clear hx r2 c1
  go_wp2_with fail
  go_end0
  rw [← HX.out]
  have cS : Chg (fun k => k = B) w2 (w2.setCell ⟨B, o, none⟩ (.int .i64 x)) := (Chg.refl (fun k => k = B) w2).setCell (p := ⟨B, o, none⟩) (fun _ => rfl) _
  refine ⟨rfl, ⟨t, cS.heap HC2.out (fun h => hBc h.symm), HR2.out.kept cS (fun k hk e => hBS (e ▸ hk)), h3⟩, Cat.heap_setCell_same hB2.out o _, (c2.mono (fun k _ h => .inl h)).trans (cS.mono (fun k _ h => .inr h))⟩

set_option maxRecDepth 100000 in
set_option maxHeartbeats 1000000 in
theorem rctext_any (w : World) (S : Nat → Prop) (c b : Nat) (st : RS) (B o : Nat) (cs : Array Value) (T : TypeId) (h : CodR w S c b st) (hB : w.heap[B]? = some (.cells cs T (0, 0))) (hBS : ¬ S B) (hBc : B ≠ c) (ho : o < cs.size) (hl : st.1.length ≤ 140737488355328) :
    Calls Try.prog 100 #[.pointer (some ⟨c, 0, none⟩), .pointer (some ⟨B, o, none⟩)] w fun e' w' => e' = .returned (.tuple #[]) ∧ CodR w' S c b (rdText 255 st).2 ∧ w'.heap[B]? = some (.cells (cs.setIfInBounds o (.string ⟨(rdText 255 st).1.toArray⟩)) T (0, 0)) ∧ Chg (RB2 b B) w w' := by
  obtain ⟨t, h1, h2, h3⟩ := h
  have hSb : S b := by obtain ⟨_, _, _, _, _, h5, _⟩ := h2; exact h5
  have hbB : ¬ B = b := fun e => hBS (e ▸ hSb)
  have hbc : ¬ c = b := fun e => h3 (e ▸ hSb)
  have c1 : w.cell? ⟨c, 1, none⟩ = some (.pointer (some ⟨b, 0, none⟩)) := by rw [cell_of_heap h1]; rfl
  have HC := Lib.hid h1
  have HR := Lib.hid h2
  have HB := Lib.hid hB
  clear h1 h2 hB
  go_enter Try.func100, Try.ntmps100
  go_wp2_with fail
  refine (rtext_any _ S b st 255 HR.out hl).mono ?_
  rintro e w2 ⟨rfl, r2, c2⟩
  have hB2 : Hid (w2.heap[B]? = some (.cells cs T (0, 0))) := c2.heap HB.out hbB
  have HC2 := Lib.hid (c2.heap HC.out hbc)
  obtain ⟨x, hx⟩ : ∃ x, x = (rdText 255 st).1 := ⟨_, rfl⟩
  rw [← hx]
  have HX := Lib.hid hx
  have HR2 := Lib.hid r2
  have q1 : w2.cell? ⟨B, o, none⟩ = some cs[o] := by rw [cell_of_heap hB2.out]; simp [ho]
  have q2 : w2.frozen? ⟨B, o, none⟩ = false := frozen_of_heap hB2.out _
  clear hx r2 c1
  go_wp2_with fail
  go_end0
  rw [← HX.out]
  have cS : Chg (fun k => k = B) w2 (w2.setCell ⟨B, o, none⟩ (.string ⟨x.toArray⟩)) := (Chg.refl (fun k => k = B) w2).setCell (p := ⟨B, o, none⟩) (fun _ => rfl) _
  refine ⟨rfl, ⟨t, cS.heap HC2.out (fun h => hBc h.symm), HR2.out.kept cS (fun k hk e => hBS (e ▸ hk)), h3⟩, Cat.heap_setCell_same hB2.out o _, (c2.mono (fun k _ h => .inl h)).trans (cS.mono (fun k _ h => .inr h))⟩
end Go.Proofs.Ytjhkhdockiocgaa
