/- Contracts of package command: a coder that writes: int, text. -/
import Derived.Test.YtjhkhdockiocgaaReader2
import Derived.Test.YtjhkhdockiocgaaArr
namespace Go.Proofs.Ytjhkhdockiocgaa
open Go.RowKit Go.Cat

/-- A coder at c that writes, its writer at b; made since w0. -/
def CodS (w0 w : World) (S : Nat → Prop) (c b : Nat) (l : List UInt8) (e : Int) : Prop :=
  ∃ T, w.heap[c]? = some (.cells #[.pointer (some ⟨b, 0, none⟩), .pointer none, .int .i64 e] T (0, 0)) ∧ WriterAt w S b l ∧ (∀ k, S k → w0.heap.size ≤ k ∧ k < w.heap.size ∧ k ≠ c) ∧ w0.heap.size ≤ c ∧ Chg (fun _ => False) w0 w
def SC (S : Nat → Prop) (c : Nat) (k : Nat) : Prop := S k ∨ k = c
theorem CodS.wrote {w0 w w' : World} {S : Nat → Prop} {c b : Nat} {l l' : List UInt8} {e : Int} (h : CodS w0 w S c b l e) (hw : WriterAt w' (ext S w w') b l') (hc : Chg S w w') : CodS w0 w' (ext S w w') c b l' e ∧ Chg (SC S c) w w' := by
  obtain ⟨T, h1, h2, h3, h4, h5⟩ := h
  have z := hc.size
  have z0 := h5.size
  have hcl : c < w.heap.size := (Array.getElem?_eq_some_iff.1 h1).1
  refine ⟨⟨T, hc.heap h1 (fun hs => (h3 c hs).2.2 rfl), hw, fun k hk => ?_, h4, h5.new hc (fun k hk => (h3 k hk).1)⟩, hc.mono (fun k _ hk => .inl hk)⟩
  rcases hk with hk | hk
  · have := h3 k hk; omega
  · omega
theorem CodS.same {w0 w w' : World} {S : Nat → Prop} {c b : Nat} {l : List UInt8} {e : Int} (h : CodS w0 w S c b l e) (hc : Chg (fun _ => False) w w') : CodS w0 w' S c b l e := by
  obtain ⟨T, h1, h2, h3, h4, h5⟩ := h
  have z := hc.size
  exact ⟨T, hc.heap h1 (fun h => h), h2.kept hc (fun _ _ h => h), fun k hk => by have := h3 k hk; omega, h4, h5.trans hc⟩
theorem CodS.grow {w0 w' : World} {S S' : Nat → Prop} {c b : Nat} {l : List UInt8} {e : Int} (h : CodS w0 w' S c b l e) (hs : ∀ k, S k → S' k) (hb : ∀ k, S' k → w0.heap.size ≤ k ∧ k < w'.heap.size ∧ k ≠ c) : CodS w0 w' S' c b l e := by
  obtain ⟨T, h1, h2, h3, h4, h5⟩ := h
  exact ⟨T, h1, h2.mono hs, hb, h4, h5⟩
theorem CodS.bad {w0 w : World} {S : Nat → Prop} {c b : Nat} {l : List UInt8} {e : Int} (x : Int) (h : CodS w0 w S c b l e) : CodS w0 (w.setCell ⟨c, 2, none⟩ (.int .i64 x)) (ext S w (w.setCell ⟨c, 2, none⟩ (.int .i64 x))) c b l x ∧ Chg (SC S c) w (w.setCell ⟨c, 2, none⟩ (.int .i64 x)) := by
  obtain ⟨T, h1, h2, h3, h4, h5⟩ := h
  have hc : Chg (fun k => k = c) w (w.setCell ⟨c, 2, none⟩ (.int .i64 x)) := (Chg.refl (fun k => k = c) w).setCell (p := ⟨c, 2, none⟩) (fun _ => rfl) _
  have z : (w.setCell ⟨c, 2, none⟩ (.int .i64 x)).heap.size = w.heap.size := World.size_setCell _ _ _
  refine ⟨⟨T, Cat.heap_setCell_same h1 2 _, (h2.kept hc (fun k hk e => (h3 k hk).2.2 e)).mono (fun _ h => ext_left h), fun k hk => ?_, h4, h5.new hc (fun k hk => by subst hk; exact h4)⟩, hc.mono (fun k _ hk => .inr hk)⟩
  rcases hk with hk | hk
  · have := h3 k hk; omega
  · omega
theorem load_wp (w : World) (p : Addr) (x : Option Addr) (h : w.cell? p = some (.pointer x)) (hp : p.spot = none := by rfl) : (Instr.loadAt 106 (.pointer (some p))).run Try.prog w = .ok (.pointer x) w := by
  obtain ⟨b, o, s⟩ := p
  simp only at hp; subst hp
  go_simp
theorem load_i64c (w : World) (p : Addr) (x : Int) (h : w.cell? p = some (.int .i64 x)) (hp : p.spot = none := by rfl) : (Instr.loadAt 2 (.pointer (some p))).run Try.prog w = .ok (.int .i64 x) w := by
  obtain ⟨b, o, s⟩ := p
  simp only at hp; subst hp
  go_simp
theorem load_strc (w : World) (p : Addr) (x : ByteArray) (h : w.cell? p = some (.string x)) (hp : p.spot = none := by rfl) : (Instr.loadAt 9 (.pointer (some p))).run Try.prog w = .ok (.string x) w := by
  obtain ⟨b, o, s⟩ := p
  simp only at hp; subst hp
  go_simp

def i8 (x : Int) : List UInt8 := be (x % 18446744073709551616).toNat 8
@[simp] theorem i8_length (x : Int) : (i8 x).length = 8 := by simp [i8]
/-- What a text does to bytes and error. -/
def tstep (st : List UInt8 × Int) (s : List UInt8) : List UInt8 × Int := if 255 < s.length then (st.1, 12) else (st.1 ++ be s.length 2 ++ s, st.2)

set_option maxRecDepth 100000 in
set_option maxHeartbeats 1000000 in
theorem cint_any (w0 w : World) (Sw : Nat → Prop) (c b : Nat) (l : List UInt8) (e x : Int) (B o : Nat) (h : CodS w0 w Sw c b l e) (hp : w0.cell? ⟨B, o, none⟩ = some (.int .i64 x)) (hl : l.length ≤ 100000000) :
    Calls Try.prog 104 #[.pointer (some ⟨c, 0, none⟩), .pointer (some ⟨B, o, none⟩)] w fun e' w' => e' = .returned (.tuple #[]) ∧ CodS w0 w' (ext Sw w w') c b (l ++ i8 x) e ∧ Chg (SC Sw c) w w' := by
  have H := Lib.hid h
  obtain ⟨T, h1, h2, h3, h4, h5⟩ := h
  have hx := h5.cell hp (fun h => h)
  have c1 : w.cell? ⟨c, 1, none⟩ = some (.pointer none) := by rw [cell_of_heap h1]; rfl
  have hcS : ¬ Sw c := fun hs => (h3 c hs).2.2 rfl
  have hBS : ¬ Sw B := fun hs => by have h6 := (h3 B hs).1; have h7 := World.block_lt_of_cell? w0 _ hp; simp only at h7; omega
  have HC := Lib.hid h1
  have HX := Lib.hid hx
  have HW := Lib.hid h2
  clear h1 h2 h3 h5 hx hp
  go_enter Try.func104, Try.ntmps104
  go_wp2_with fail
  refine wpT.begin (fun k => Sw k) 8 (by kernel_rfl) rfl ?_
  refine wpT.take 0 rfl (by kernel_rfl) (fun _ _ _ h => h) rfl (fun w' hw' => by go_simp <;> with_reducible rfl) ?_
  simp only [Act.put, List.setIfInBounds_toArray, List.set_cons_zero, List.set_cons_succ]
  refine wpT.take 1 rfl (by kernel_rfl) (fun _ _ _ h => h) rfl (fun w' hw' => by go_simp <;> with_reducible rfl) ?_
  simp only [Act.put, List.setIfInBounds_toArray, List.set_cons_zero, List.set_cons_succ]
  refine wpT.take 2 rfl (by kernel_rfl) (fun _ _ _ h => h) rfl (fun w' hw' => by go_simp <;> with_reducible rfl) ?_
  simp only [Act.put, List.setIfInBounds_toArray, List.set_cons_zero, List.set_cons_succ]
  refine wpT.take 3 rfl (by kernel_rfl) (fun _ _ _ h => h) rfl (fun w' hw' => by exact exec_load _ _ _ _ rfl rfl (load_wp w' _ _ (((Chg.refl Sw w).drew.trans hw').cell (by rw [cell_of_heap HC.out]; rfl) hcS))) ?_
  simp only [Act.put, List.setIfInBounds_toArray, List.set_cons_zero, List.set_cons_succ]
  refine wpT.take 4 rfl (by kernel_rfl) (fun _ _ _ h => h) rfl (fun w' hw' => by go_simp <;> with_reducible rfl) ?_
  simp only [Act.put, List.setIfInBounds_toArray, List.set_cons_zero, List.set_cons_succ]
  refine wpT.take 5 rfl (by kernel_rfl) (fun _ _ _ h => h) rfl (fun w' hw' => by go_simp <;> with_reducible rfl) ?_
  simp only [Act.put, List.setIfInBounds_toArray, List.set_cons_zero, List.set_cons_succ]
  refine wpT.take 6 rfl (by kernel_rfl) (fun _ _ _ h => h) rfl (fun w' hw' => by exact exec_load _ _ _ _ rfl rfl (load_i64c w' _ _ (((Chg.refl Sw w).drew.trans hw').cell HX.out hBS))) ?_
  simp only [Act.put, List.setIfInBounds_toArray, List.set_cons_zero, List.set_cons_succ]
  refine wpT.call 7 rfl (by kernel_rfl) rfl (fun K hK => ?_)
  go_wp2_with fail
  refine (wint_any x w.drew Sw b l (HW.out.kept (T := fun _ => False) (Chg.refl _ w).drew (fun _ _ h => h)) (by omega)).mono ?_
  rintro e' w2 ⟨rfl, hw2, c2⟩
  refine hK _ _ c2 ?_
  clear hK
  refine wpT.done (by kernel_rfl) ?_
  go_wp2_with fail
  go_end0
  obtain ⟨r1, r2⟩ := H.out.wrote (l' := l ++ i8 x) hw2 ((Chg.refl Sw w).drew.trans c2)
  exact ⟨rfl, r1, r2⟩

set_option maxRecDepth 100000 in
set_option maxHeartbeats 1000000 in
theorem ctext_any (w0 w : World) (Sw : Nat → Prop) (c b : Nat) (l : List UInt8) (e : Int) (s : List UInt8) (B o : Nat) (h : CodS w0 w Sw c b l e) (hp : w0.cell? ⟨B, o, none⟩ = some (.string ⟨s.toArray⟩)) (hl : l.length ≤ 100000000) :
    Calls Try.prog 100 #[.pointer (some ⟨c, 0, none⟩), .pointer (some ⟨B, o, none⟩)] w fun e' w' => e' = .returned (.tuple #[]) ∧ CodS w0 w' (ext Sw w w') c b (tstep (l, e) s).1 (tstep (l, e) s).2 ∧ Chg (SC Sw c) w w' := by
  have H := Lib.hid h
  obtain ⟨T, h1, h2, h3, h4, h5⟩ := h
  have hx := h5.cell hp (fun h => h)
  have c1 : w.cell? ⟨c, 1, none⟩ = some (.pointer none) := by rw [cell_of_heap h1]; rfl
  have c2 : w.cell? ⟨c, 2, none⟩ = some (.int .i64 e) := by rw [cell_of_heap h1]; rfl
  have cf := frozen_of_heap h1
  have hcS : ¬ Sw c := fun hs => (h3 c hs).2.2 rfl
  have hBS : ¬ Sw B := fun hs => by have h6 := (h3 B hs).1; have h7 := World.block_lt_of_cell? w0 _ hp; simp only at h7; omega
  have HC := Lib.hid h1
  have HX := Lib.hid hx
  have HW := Lib.hid h2
  clear h1 h2 h3 h5 hp
  by_cases hlong : 255 < s.length
  · have i1 : (255 : Int) < s.length := by omega
    have ht : tstep (l, e) s = (l, 12) := if_pos hlong
    have HT := Lib.hid ht
    clear ht
    go_enter Try.func100, Try.ntmps100
    go_wp2_with fail
    go_end0
    rw [HT.out]
    obtain ⟨r1, r2⟩ := H.out.bad 12
    exact ⟨rfl, r1, r2⟩
  · have i1 : ¬ (255 : Int) < s.length := by omega
    have ht : tstep (l, e) s = (l ++ be s.length 2 ++ s, e) := if_neg hlong
    have HT := Lib.hid ht
    clear ht
    go_enter Try.func100, Try.ntmps100
    go_wp2_with fail
    clear hx
    refine wpT.begin (fun k => Sw k) 8 (by kernel_rfl) rfl ?_
    refine wpT.take 0 rfl (by kernel_rfl) (fun _ _ _ h => h) rfl (fun w' hw' => by go_simp <;> with_reducible rfl) ?_
    simp only [Act.put, List.setIfInBounds_toArray, List.set_cons_zero, List.set_cons_succ]
    refine wpT.take 1 rfl (by kernel_rfl) (fun _ _ _ h => h) rfl (fun w' hw' => by go_simp <;> with_reducible rfl) ?_
    simp only [Act.put, List.setIfInBounds_toArray, List.set_cons_zero, List.set_cons_succ]
    refine wpT.take 2 rfl (by kernel_rfl) (fun _ _ _ h => h) rfl (fun w' hw' => by go_simp <;> with_reducible rfl) ?_
    simp only [Act.put, List.setIfInBounds_toArray, List.set_cons_zero, List.set_cons_succ]
    refine wpT.take 3 rfl (by kernel_rfl) (fun _ _ _ h => h) rfl (fun w' hw' => by exact exec_load _ _ _ _ rfl rfl (load_wp w' _ _ (((Chg.refl Sw w).drew.trans hw').cell (by rw [cell_of_heap HC.out]; rfl) hcS))) ?_
    simp only [Act.put, List.setIfInBounds_toArray, List.set_cons_zero, List.set_cons_succ]
    refine wpT.take 4 rfl (by kernel_rfl) (fun _ _ _ h => h) rfl (fun w' hw' => by go_simp <;> with_reducible rfl) ?_
    simp only [Act.put, List.setIfInBounds_toArray, List.set_cons_zero, List.set_cons_succ]
    refine wpT.take 5 rfl (by kernel_rfl) (fun _ _ _ h => h) rfl (fun w' hw' => by go_simp <;> with_reducible rfl) ?_
    simp only [Act.put, List.setIfInBounds_toArray, List.set_cons_zero, List.set_cons_succ]
    refine wpT.take 6 rfl (by kernel_rfl) (fun _ _ _ h => h) rfl (fun w' hw' => by exact exec_load _ _ _ _ rfl rfl (load_strc w' _ _ (((Chg.refl Sw w).drew.trans hw').cell HX.out hBS))) ?_
    simp only [Act.put, List.setIfInBounds_toArray, List.set_cons_zero, List.set_cons_succ]
    refine wpT.call 7 rfl (by kernel_rfl) rfl (fun K hK => ?_)
    go_wp2_with fail
    refine (wtext_ok s w.drew Sw b l (HW.out.kept (T := fun _ => False) (Chg.refl _ w).drew (fun _ _ h => h)) (by omega) (by omega)).mono ?_
    rintro e' w2 ⟨rfl, hw2, c2⟩
    refine hK _ _ c2 ?_
    clear hK
    refine wpT.done (by kernel_rfl) ?_
    go_wp2_with fail
    go_end0
    rw [HT.out]
    obtain ⟨r1, r2⟩ := H.out.wrote (l' := l ++ be s.length 2 ++ s) hw2 ((Chg.refl Sw w).drew.trans c2)
    exact ⟨rfl, r1, r2⟩
end Go.Proofs.Ytjhkhdockiocgaa
