/- tier.Stock in memory; New, wide, Mark, Len, Points. -/
import Derived.Test.YtmnnahkaenikkaaRoll3
import Derived.Test.YtmnnahkaenikkaaSerAll
namespace Go.Cat
open Go.RowKit
theorem Owns.chgd {w w' : World} {s n : Nat} {v : Value} {xs : List Value} (h : Owns w s v n xs) {S : Nat → Prop} (c : Chg S w w') (hs : ∀ k, v.ownBlock = some k → ¬ S k) : Owns w' s v n xs := h.kept c hs
end Go.Cat
namespace Go.Proofs.Ytmnnahkaenikkaa
open Go.RowKit Go.Cat
/-- A stock: points, aggregates, marks. -/
structure St where
  raw : List Pt
  mid : List Ag
  long : List Ag
  m1 : Int
  m2 : Int
def St.agg (s : St) (t : Nat) : List Ag := if t = 1 then s.mid else s.long
def St.mk_ (s : St) (t : Nat) : Int := if t = 1 then s.m1 else s.m2
/-- Aggregates of a tier: each begins at a window, ahead of a mark. -/
def AgOk (t : Nat) (m : Int) (l : List Ag) : Prop := ∀ a ∈ l, 0 ≤ a.tk ∧ a.tk < m ∧ a.tk % wid t = 0
structure Inv (s : St) : Prop where
  tks : ∀ p ∈ s.raw, 0 ≤ p.tk ∧ p.tk ≤ 1099511627776
  midOk : AgOk 1 s.m1 s.mid
  longOk : AgOk 2 s.m2 s.long
  midFew : s.mid.length ≤ 256
  longFew : s.long.length ≤ 256
  b1 : 0 ≤ s.m1 ∧ s.m1 ≤ 1099511627776
  b2 : 0 ≤ s.m2 ∧ s.m2 ≤ 1099511627776
def stC (R1 : Nat) (vm vl : Value) (s : St) : Array Value := #[.pointer (some ⟨R1, 0, none⟩), .slice none 0 0, vm, vl, .int .i64 0, .int .i64 s.m1, .int .i64 s.m2]
structure StAt (w : World) (F : Nat → Prop) (R R1 : Nat) (vr vm vl : Value) (s : St) : Prop where
  hd : w.heap[R]? = some (.cells (stC R1 vm vl s) 86 (0, 0))
  ser : Ser w R1 vr s.raw
  mid : OAgs w vm s.mid
  long : OAgs w vl s.long
  fR : F R
  fR1 : F R1
  fr : ∀ k, vr.ownBlock = some k → F k
  fm : ∀ k, vm.ownBlock = some k → F k
  fl : ∀ k, vl.ownBlock = some k → F k
  d1 : R ≠ R1
  dr : ∀ k, vr.ownBlock = some k → k ≠ R
  dm : ∀ k, vm.ownBlock = some k → k ≠ R ∧ k ≠ R1 ∧ vr.ownBlock ≠ some k ∧ vl.ownBlock ≠ some k
  dl : ∀ k, vl.ownBlock = some k → k ≠ R ∧ k ≠ R1 ∧ vr.ownBlock ≠ some k
  inv : Inv s
def StIs (w : World) (F : Nat → Prop) (R : Nat) (s : St) : Prop := ∃ R1 vr vm vl, StAt w F R R1 vr vm vl s
theorem StAt.kept {w w' : World} {F : Nat → Prop} {R R1 : Nat} {vr vm vl : Value} {s : St} (h : StAt w F R R1 vr vm vl s) {T : Nat → Prop} (c : Chg T w w') (ht : ∀ k, F k → ¬ T k) : StAt w' F R R1 vr vm vl s :=
  { h with hd := c.heap h.hd (ht _ h.fR), ser := h.ser.kept c (ht _ h.fR1) (fun k hk => ht _ (h.fr k hk)), mid := Owns.kept h.mid c (fun k hk => ht _ (h.fm k hk)), long := Owns.kept h.long c (fun k hk => ht _ (h.fl k hk)) }
theorem StAt.mono {w : World} {F G : Nat → Prop} {R R1 : Nat} {vr vm vl : Value} {s : St} (h : StAt w F R R1 vr vm vl s) (hg : ∀ k, F k → G k) : StAt w G R R1 vr vm vl s :=
  { h with fR := hg _ h.fR, fR1 := hg _ h.fR1, fr := fun k hk => hg _ (h.fr k hk), fm := fun k hk => hg _ (h.fm k hk), fl := fun k hk => hg _ (h.fl k hk) }
theorem StIs.kept {w w' : World} {F : Nat → Prop} {R : Nat} {s : St} (h : StIs w F R s) {T : Nat → Prop} (c : Chg T w w') (ht : ∀ k, F k → ¬ T k) : StIs w' F R s := by
  obtain ⟨R1, vr, vm, vl, h⟩ := h
  exact ⟨R1, vr, vm, vl, h.kept c ht⟩
theorem StIs.same {w w' : World} {F : Nat → Prop} {R : Nat} {s : St} (h : StIs w F R s) (c : Chg (fun _ => False) w w') : StIs w' F R s := h.kept c (fun _ _ h => h)
theorem StIs.mono {w : World} {F G : Nat → Prop} {R : Nat} {s : St} (h : StIs w F R s) (hg : ∀ k, F k → G k) : StIs w G R s := by
  obtain ⟨R1, vr, vm, vl, h⟩ := h
  exact ⟨R1, vr, vm, vl, h.mono hg⟩
theorem StIs.inv {w : World} {F : Nat → Prop} {R : Nat} {s : St} (h : StIs w F R s) : Inv s := by
  obtain ⟨R1, vr, vm, vl, h⟩ := h
  exact h.inv
theorem StAt.cells {w : World} {F : Nat → Prop} {R R1 : Nat} {vr vm vl : Value} {s : St} (h : StAt w F R R1 vr vm vl s) :
    w.cell? ⟨R, 0, none⟩ = some (.pointer (some ⟨R1, 0, none⟩)) ∧ w.cell? ⟨R, 2, none⟩ = some vm ∧ w.cell? ⟨R, 3, none⟩ = some vl ∧ w.cell? ⟨R, 5, none⟩ = some (.int .i64 s.m1) ∧ w.cell? ⟨R, 6, none⟩ = some (.int .i64 s.m2) := by
  have h' := h.hd
  refine ⟨?_, ?_, ?_, ?_, ?_⟩ <;> (rw [cell_of_heap h']; rfl)
theorem StAt.ags {w : World} {F : Nat → Prop} {R R1 : Nat} {vr vm vl : Value} {s : St} (h : StAt w F R R1 vr vm vl s) : Ags w vm s.mid ∧ Ags w vl s.long := ⟨Owns.reads h.mid, Owns.reads h.long⟩
theorem StAt.lt {w : World} {F : Nat → Prop} {R R1 : Nat} {vr vm vl : Value} {s : St} (h : StAt w F R R1 vr vm vl s) : R < w.heap.size := (Array.getElem?_eq_some_iff.1 h.hd).1
def St.new : St := ⟨[], [], [], 0, 0⟩
theorem inv_new : Inv St.new := ⟨by simp [St.new], by simp [St.new, AgOk], by simp [St.new, AgOk], by simp [St.new], by simp [St.new], by simp [St.new], by simp [St.new]⟩
set_option maxRecDepth 100000 in
theorem newst_c (w : World) : Calls Try.prog 25 #[] w fun e w' => ∃ R, e = .returned (.pointer (some ⟨R, 0, none⟩)) ∧ StIs w' (fun k => w.heap.size ≤ k ∧ k < w'.heap.size) R St.new ∧ Chg (fun _ => False) w w' := by
  go_enter Try.func25, Try.ntmps25
  go_wp2_with fail
  refine (newser_c w).mono ?_
  rintro e w1 ⟨rfl, hs, c1⟩
  have HS := Lib.hid hs
  have C1 := Lib.hid c1
  have hb := heap_at_new w1 (.cells #[.pointer (some ⟨w.heap.size, 0, none⟩), .slice none 0 0, .slice none 0 0, .slice none 0 0, .int .i64 0, .int .i64 0, .int .i64 0] 86) _ rfl
  have HB := Lib.hid hb
  clear hs c1 hb
  go_wp2_with fail
  go_ret
  have hl := HS.out.lt.1
  have hz := C1.out.size
  have c2 : Chg (fun _ => False) w1 (w1.alloc (.cells #[.pointer (some ⟨w.heap.size, 0, none⟩), .slice none 0 0, .slice none 0 0, .slice none 0 0, .int .i64 0, .int .i64 0, .int .i64 0] 86)) := (Chg.refl _ w1).alloc _
  refine ⟨w1.heap.size, rfl, ⟨w.heap.size, .slice none 0 0, .slice none 0 0, .slice none 0 0, ⟨HB.out, HS.out.kept c2 (fun h => h) (fun _ _ h => h), Owns.nil _ _, Owns.nil _ _, by simp; omega, by simp; omega, by simp [Value.ownBlock], by simp [Value.ownBlock], by simp [Value.ownBlock], by omega, by simp [Value.ownBlock], by simp [Value.ownBlock], by simp [Value.ownBlock], inv_new⟩⟩, C1.out.trans c2⟩
set_option maxRecDepth 100000 in
theorem wide_c (w : World) (t : Nat) (ht : t = 0 ∨ t = 1 ∨ t = 2) : Calls Try.prog 36 #[.int .i64 t] w fun e w' => e = .returned (.bool (t != 0)) ∧ w = w' := by
  rcases ht with rfl | rfl | rfl
  · go_enter Try.func36, Try.ntmps36
    go_wp2_with fail
    go_ret
    exact ⟨rfl, rfl⟩
  · go_enter Try.func36, Try.ntmps36
    go_wp2_with fail
    go_ret
    exact ⟨rfl, rfl⟩
  · go_enter Try.func36, Try.ntmps36
    go_wp2_with fail
    go_ret
    exact ⟨rfl, rfl⟩
set_option maxRecDepth 100000 in
theorem mark_c (w : World) (F : Nat → Prop) (R : Nat) (s : St) (t : Nat) (ht : t = 1 ∨ t = 2) (h : StIs w F R s) : Calls Try.prog 24 #[.pointer (some ⟨R, 0, none⟩), .int .i64 t] w fun e w' => e = .returned (.int .i64 (s.mk_ t)) ∧ w = w' := by
  obtain ⟨R1, vr, vm, vl, h⟩ := h
  obtain ⟨q0, q2, q3, q5, q6⟩ := h.cells
  have WC := Lib.hid (wide_c w t (by omega))
  clear h q0 q2 q3
  rcases ht with rfl | rfl
  · go_enter Try.func24, Try.ntmps24
    go_wp2_with fail
    refine WC.out.mono ?_
    rintro e w1 ⟨rfl, rfl⟩
    go_wp2_with fail
    go_ret
    exact ⟨rfl, rfl⟩
  · go_enter Try.func24, Try.ntmps24
    go_wp2_with fail
    refine WC.out.mono ?_
    rintro e w1 ⟨rfl, rfl⟩
    go_wp2_with fail
    go_ret
    exact ⟨rfl, rfl⟩
def St.len (s : St) (t : Nat) : Int := if t = 0 then s.raw.length else (s.agg t).length
set_option maxRecDepth 100000 in
theorem stlen_c (w : World) (F : Nat → Prop) (R : Nat) (s : St) (t : Nat) (ht : t = 0 ∨ t = 1 ∨ t = 2) (h : StIs w F R s) : Calls Try.prog 28 #[.pointer (some ⟨R, 0, none⟩), .int .i64 t] w fun e w' => e = .returned (.int .i64 (s.len t)) ∧ w = w' := by
  obtain ⟨R1, vr, vm, vl, h⟩ := h
  obtain ⟨q0, q2, q3, q5, q6⟩ := h.cells
  obtain ⟨ma, mc, rfl⟩ := Owns.form h.mid
  obtain ⟨la, lc, rfl⟩ := Owns.form h.long
  have WC := Lib.hid (wide_c w t ht)
  have SL := Lib.hid (serlen_c w R1 vr s.raw h.ser)
  clear h q5 q6
  rcases ht with rfl | rfl | rfl
  · clear q2 q3 WC
    go_enter Try.func28, Try.ntmps28
    go_wp2_with fail
    refine SL.out.mono ?_
    rintro e w1 ⟨rfl, rfl⟩
    go_wp2_with fail
    go_ret
    exact ⟨rfl, rfl⟩
  · clear q0 SL
    go_enter Try.func28, Try.ntmps28
    go_wp2_with fail
    refine WC.out.mono ?_
    rintro e w1 ⟨rfl, rfl⟩
    go_wp2_with fail
    go_ret
    exact ⟨rfl, rfl⟩
  · clear q0 SL
    go_enter Try.func28, Try.ntmps28
    go_wp2_with fail
    refine WC.out.mono ?_
    rintro e w1 ⟨rfl, rfl⟩
    go_wp2_with fail
    go_ret
    exact ⟨rfl, rfl⟩
set_option maxRecDepth 100000 in
set_option maxHeartbeats 1000000 in
theorem points_c (w : World) (F : Nat → Prop) (R : Nat) (s : St) (a b : Int) (h : StIs w F R s) : Calls Try.prog 18 #[.pointer (some ⟨R, 0, none⟩), .agg #[.int .i64 a, .int .i64 b]] w fun e w' => ∃ v', e = .returned v' ∧ OPts w' v' (inR s.raw a b) ∧ (∀ k, v'.ownBlock = some k → w.heap.size ≤ k) ∧ Chg (fun _ => False) w w' := by
  obtain ⟨R1, vr, vm, vl, h⟩ := h
  obtain ⟨W, hW⟩ : ∃ W, W = w.alloc (.cells #[.int .i64 a, .int .i64 b] 24) := ⟨_, rfl⟩
  have cW : Chg (fun _ => False) w W := by rw [hW]; exact (Chg.refl _ w).alloc _
  have hb : W.heap[w.heap.size]? = some (.cells #[.int .i64 a, .int .i64 b] 24 (0, 0)) := by rw [hW]; exact heap_at_new _ _ _ rfl
  have HB : Hid (W.drew.heap[w.heap.size]? = some (.cells #[.int .i64 a, .int .i64 b] 24 (0, 0))) := hb
  have h1 := h.kept cW (fun _ _ h => h)
  have h2 := h1.kept (Chg.refl (fun _ => False) W).drew (fun _ _ h => h)
  obtain ⟨q0, -⟩ := h2.cells
  have q0 := Lib.hid q0
  have GC := Lib.hid (get_c W.drew R1 vr s.raw a b h2.ser)
  have CW := Lib.hid cW
  have HW := Lib.hid hW
  clear hb h1 h2 h hW cW
  go_enter Try.func18, Try.ntmps18
  go_wp2_with fail
  rw [← HW.out]
  refine wpT.begin (fun _ => False) 7 (by kernel_rfl) rfl ?_
  refine wpT.take 0 rfl (by kernel_rfl) (fun _ _ _ h => h) rfl (fun w' hw' => by go_simp <;> with_reducible rfl) ?_
  simp only [Act.put, List.setIfInBounds_toArray, List.set_cons_zero, List.set_cons_succ]
  refine wpT.take 1 rfl (by kernel_rfl) (fun _ _ _ h => h) rfl (fun w' hw' => by go_simp <;> with_reducible rfl) ?_
  simp only [Act.put, List.setIfInBounds_toArray, List.set_cons_zero, List.set_cons_succ]
  refine wpT.take 2 rfl (by kernel_rfl) (fun _ _ _ h => h) rfl (fun w' hw' => by go_simp <;> with_reducible rfl) ?_
  simp only [Act.put, List.setIfInBounds_toArray, List.set_cons_zero, List.set_cons_succ]
  refine wpT.ld 3 rfl (by kernel_rfl) (fun _ _ _ _ h => h) rfl _ _ rfl (by kernel_rfl) ⟨R, 0, none⟩ rfl _ (q0.out) (fun h => h) ?_
  simp only [Act.put, List.setIfInBounds_toArray, List.set_cons_zero, List.set_cons_succ]
  refine wpT.take 4 rfl (by kernel_rfl) (fun _ _ _ h => h) rfl (fun w' hw' => exec_load _ _ _ _ rfl rfl (run_loadAt_agg w' _ _ w.heap.size 0 [.int .i64 a, .int .i64 b] Try.underlying24 rfl (by kernel_rfl) (fun j u hj => by have := hw'.heap HB.out (fun h => h); rw [Nat.zero_add, cell_of_heap this]; simpa using hj))) ?_
  simp only [Act.put, List.setIfInBounds_toArray, List.set_cons_zero, List.set_cons_succ]
  refine wpT.call 5 rfl (by kernel_rfl) rfl (fun K hK => ?_)
  go_wp2_with fail
  refine GC.out.mono ?_
  rintro e w2 ⟨v2, rfl, o2, f2, c2⟩
  have O2 := Lib.hid o2
  have F2 : Hid (∀ k, v2.ownBlock = some k → w.heap.size ≤ k) := fun k hk => by have h1 : W.heap.size ≤ k := f2 k hk; have := CW.out.size; omega
  have C2 : Hid (Chg (fun _ => False) w w2) := CW.out.drew.trans c2
  refine hK _ _ c2 ?_
  clear hK o2 f2 c2
  try (simp only [Act.put, List.setIfInBounds_toArray, List.set_cons_zero, List.set_cons_succ])
  refine wpT.take 6 rfl (by kernel_rfl) (fun _ _ _ h => h) rfl (fun w' hw' => by go_simp <;> with_reducible rfl) ?_
  simp only [Act.put, List.setIfInBounds_toArray, List.set_cons_zero, List.set_cons_succ]
  refine wpT.done (by kernel_rfl) ?_
  go_wp2_with fail
  go_ret
  exact ⟨_, rfl, O2.out, F2.out, C2.out⟩
end Go.Proofs.Ytmnnahkaenikkaa
