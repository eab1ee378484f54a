/- Stock.soonest. -/
import Derived.Test.YtmnnahkaenikkaaStk3
namespace Go.Proofs.Ytmnnahkaenikkaa
open Go.RowKit Go.Cat Go.Shelf
attribute [local go_sem] Oper.semAt_some
/-- The first tick from the mark on at which the tier below has something. -/
def St.soon (s : St) (t : Nat) : Option Int := if t = 1 then (s.raw.find? (fun p => decide (s.m1 ≤ p.tk))).map (·.tk) else (s.mid.find? (fun a => decide (s.m2 ≤ a.tk))).map (·.tk)
def optT : Option Int → Value
  | none => .tuple #[.int .i64 0, .bool false]
  | some x => .tuple #[.int .i64 x, .bool true]
theorem find_none {α : Type} {l : List α} {f : α → Bool} (h : ∀ x ∈ l, f x = false) : l.find? f = none := by
  rw [List.find?_eq_none]
  intro x hx
  rw [h x hx]; simp
theorem find_at {α : Type} {l a r : List α} {x : α} {f : α → Bool} (e : l = a ++ x :: r) (h : ∀ y ∈ a, f y = false) (hx : f x = true) : l.find? f = some x := by
  subst e
  rw [List.find?_append, find_none h]
  simp [List.find?, hx]
set_option maxRecDepth 100000 in
theorem serall_c (w : World) (R : Nat) : Calls Try.prog 87 #[.pointer (some ⟨R, 0, none⟩)] w fun e w' => e = .returned (.func (.func 93) #[] #[.pointer (some ⟨w.heap.size, 0, none⟩)]) ∧ w' = w.alloc (.cells #[.pointer (some ⟨R, 0, none⟩)] 82) := by
  go_enter Try.func87, Try.ntmps87
  go_wp2_with fail
  go_ret
  exact ⟨rfl, rfl⟩
theorem chg_put {W : World} {D : Nat} : Chg (fun q => q = D) W (W.putObj D (.deferred none)) := ⟨rfl, rfl, rfl, by simp, fun q _ hq => World.putObj_heap_other hq⟩
theorem notb {W : World} {D : Nat} {b : Nat} {c : Array Value} {T : TypeId} {f : Nat × Nat} {o : Obj} (hb : W.heap[b]? = some (.cells c T f)) (hD : W.heap[D]? = some o) (ho : o.isCells = false) : ¬ b = D := fun h => by
  subst h; rw [hb] at hD; cases hD; cases ho
set_option maxRecDepth 100000 in
set_option maxHeartbeats 2000000 in
theorem soon1_c (w : World) (F : Nat → Prop) (R : Nat) (s : St) (h : StIs w F R s) : Calls Try.prog 79 #[.pointer (some ⟨R, 0, none⟩), .int .i64 1] w fun e w' => e = .returned (optT (s.soon 1)) ∧ Chg (fun _ => False) w w' := by
  obtain ⟨R1, vr, vm, vl, h⟩ := h
  have e1 : s.soon 1 = (s.raw.find? (fun p => decide (s.m1 ≤ p.tk))).map (·.tk) := rfl
  rw [e1]
  clear e1
  obtain ⟨m, hm⟩ : ∃ m, m = s.m1 := ⟨_, rfl⟩
  obtain ⟨L, hL⟩ : ∃ L, L = s.raw := ⟨_, rfl⟩
  rw [← hL, ← hm]
  obtain ⟨W3, hW3⟩ : ∃ W, W = ((w.alloc (.cells #[.int .i64 0] 2)).alloc (.cells #[.bool false] 4)).alloc (.cells #[.int .i64 m, .int .i64 1099511627777] 24) := ⟨_, rfl⟩
  have AC := Lib.hid (serall_c W3 R1)
  have c2 : Chg (fun _ => False) w ((w.alloc (.cells #[.int .i64 0] 2)).alloc (.cells #[.bool false] 4)) := ((Chg.refl (fun _ => False) w).alloc _).alloc _
  have c3 : Chg (fun _ => False) w W3 := by rw [hW3]; exact c2.alloc _
  obtain ⟨q0, q2, q3, q5, q6⟩ := (h.kept c2 (fun _ _ h => h)).cells
  obtain ⟨p0, -⟩ := (h.kept c3 (fun _ _ h => h)).cells
  rw [hW3] at p0
  rw [← hm] at q5
  have HL := Lib.hid hL
  have H := Lib.hid h
  have C3 := Lib.hid c3
  clear h q0 q2 q3 q6 c2 c3 hL hm
  refine (callsIn_wide (n := 5)).1 ?_
  have h1 : 1 ≤ 5 := by omega
  refine callsIn_of_wp_marks Try.func79 rfl trivial ?_ rfl
  simp only [Try.ntmps79, List.size_toArray, List.length_cons, List.length_nil, Nat.reduceAdd, Nat.reduceSub, Array.replicate_succ, Array.replicate_zero, List.push_toArray, List.append_toArray, List.nil_append, List.cons_append]
  gi_wp2
  rw [← hW3]
  refine ⟨trivial, (callsIn_wide.2 AC.out).mono ?_⟩
  rintro e ww ⟨rfl, hww⟩
  gi_wp2
  rw [← hW3, ← hww]
  have cww : Chg (fun _ => False) W3 ww := by rw [hww]; exact (Chg.refl _ W3).alloc _
  have z3 : W3.heap.size = w.heap.size + 3 := by rw [hW3]; simp
  have zw : ww.heap.size = w.heap.size + 4 := by rw [hww, World.size_alloc, z3]
  have g4 : ww.heap[w.heap.size]? = some (.cells #[.int .i64 0] 2 (0, 0)) := by
    refine cww.heap ?_ (fun h => h)
    rw [hW3]; exact (((Chg.refl (fun _ => False) _).alloc _).alloc _).heap (heap_at_new w _ _ rfl) (fun h => h)
  have g5 : ww.heap[w.heap.size + 1]? = some (.cells #[.bool false] 4 (0, 0)) := by
    refine cww.heap ?_ (fun h => h)
    rw [hW3]; exact ((Chg.refl (fun _ => False) _).alloc _).heap (heap_at_new _ _ _ (by simp)) (fun h => h)
  have g6 : ww.heap[w.heap.size + 1 + 1]? = some (.cells #[.int .i64 m, .int .i64 1099511627777] 24 (0, 0)) := by
    refine cww.heap ?_ (fun h => h)
    rw [hW3]; exact heap_at_new _ _ _ (by simp)
  have gx : ww.heap[w.heap.size + 1 + 1 + 1]? = some (.cells #[.pointer (some ⟨R1, 0, none⟩)] 82 (0, 0)) := by
    rw [hww]; exact heap_at_new _ _ _ (by omega)
  obtain ⟨b4, e4⟩ : ∃ b, b = w.heap.size := ⟨_, rfl⟩
  obtain ⟨b5, e5⟩ : ∃ b, b = w.heap.size + 1 := ⟨_, rfl⟩
  obtain ⟨b6, e6⟩ : ∃ b, b = w.heap.size + 1 + 1 := ⟨_, rfl⟩
  obtain ⟨Bx, ex⟩ : ∃ b, b = w.heap.size + 1 + 1 + 1 := ⟨_, rfl⟩
  rw [← ex] at gx ⊢
  rw [← e6] at g6 ⊢
  rw [← e5] at g5 ⊢
  rw [← e4] at g4 ⊢
  have ORD : Hid (w.heap.size = b4 ∧ b5 = b4 + 1 ∧ b6 = b4 + 2 ∧ Bx = b4 + 3 ∧ ww.heap.size = b4 + 4) := by show _ ∧ _; omega
  have CWW : Hid (Chg (fun _ => False) w ww) := C3.out.trans cww
  have hser := H.out.ser.kept CWW.out (fun h => h) (fun _ _ h => h)
  have gq : ww.cell? ⟨Bx, 0, none⟩ = some (.pointer (some ⟨R1, 0, none⟩)) := by rw [cell_of_heap gx]; rfl
  have hlt := H.out.ser.lt
  have hstops := serall_stops s.raw 4 (by omega) Bx R1 vr (fun q => q = b4 ∨ q = b5) ww hser gq (fun h => by omega) (fun h => by have := hlt.1; omega) (fun q hq h => by have := hlt.2 q hq; omega)
  have few : s.raw.length ≤ 256 := hser.few
  rw [← HL.out] at hstops few
  have G4 := Lib.hid g4
  have G5 := Lib.hid g5
  have G6 := Lib.hid g6
  clear g4 g5 g6 gx gq hser hlt hww hW3 z3 zw e4 e5 e6 ex p0 q5 cww AC C3 H HL
  refine wpIn_rangeFunc_ownH (α := Pt) rfl h1 (gf := 93) (lb := #[.pointer (some ⟨Bx, 0, none⟩)]) rfl trivial (enters_of Try.func93 (by kernel_rfl) rfl)
    hstops keepS_t keepS_b (Below.refl _ _) (fun _ => rfl)
    (fun pre W => Hid (Chg (fun _ => False) ww W) ∧ Hid (∀ y ∈ pre, y.tk < m))
    (fun c pre W => Hid (c = .ret ∧ ∃ pre' x, pre = pre' ++ [x] ∧ (∀ y ∈ pre', y.tk < m) ∧ m ≤ x.tk ∧ W.heap[b4]? = some (.cells #[.int .i64 x.tk] 2 (0, 0)) ∧ W.heap[b5]? = some (.cells #[.bool true] 4 (0, 0)) ∧ Chg (fun q => q = b4 ∨ q = b5) ww W))
    (fun s A B row hs hg hr => ⟨hs.1.out.trans' (Chg.of_grownBy hg) (fun i hi hs => by have := (hr i hs).1; omega), hs.2⟩)
    (fun c s A B row hs hg hr => by
      obtain ⟨h1, pre', x, h2, h3, h4, h5, h6, h7⟩ := hs.out
      exact ⟨h1, pre', x, h2, h3, h4, (Chg.of_grownBy hg).heap h5 ((NoCells.of_row hr).notB h5), (Chg.of_grownBy hg).heap h6 ((NoCells.of_row hr).notB h6), h7.trans' (Chg.of_grownBy hg) (fun i hi hs => by have := (hr i hs).1; omega)⟩)
    ⟨Chg.refl _ _, by simp [Hid]⟩
    (fun x a' W => ∃ Bp, Hid (W.heap[Bp]? = some (.cells #[.int .i64 x.tk, .int .i64 x.val] 32 (0, 0)) ∧ ww.heap.size ≤ Bp) ∧ a' = { tmps := #[Value.pointer (some ⟨R, 0, none⟩), Value.int .i64 1, undef, undef, Value.pointer (some ⟨b4, 0, none⟩), Value.pointer (some ⟨b5, 0, none⟩), Value.pointer (some ⟨b6, 0, none⟩), Value.pointer (some ⟨Bp, 0, none⟩), undef, undef, Value.pointer (some ⟨R, 0, none⟩), Value.int .i64 1, Value.pointer (some ⟨R, 0, none⟩), Value.pointer (some ⟨R, 4, none⟩), Value.pointer (some ⟨R, 5, none⟩), Value.int .i64 m, Value.agg #[Value.int .i64 m, Value.int .i64 1099511627777], Value.int .i64 1, Value.bool true, Value.pointer (some ⟨R, 0, none⟩), Value.pointer (some ⟨R, 0, none⟩), Value.pointer (some ⟨R, 0, none⟩), Value.pointer (some ⟨R1, 0, none⟩), Value.func (Fn.func 93) #[] #[Value.pointer (some ⟨Bx, 0, none⟩)], mkP x, undef, undef, undef, undef, undef, undef, undef, undef, undef, undef, undef, undef, undef, undef, undef, undef, undef, undef, undef, undef, undef, undef, undef, undef, undef], defers := [] })
    (fun x a' s A B row hs hg hr => by
      obtain ⟨Bp, h1, h2⟩ := hs
      exact ⟨Bp, ⟨(Chg.of_grownBy hg).heap h1.out.1 ((NoCells.of_row hr).notB h1.out.1), h1.out.2⟩, h2⟩)
    ?assign ?body ?done ?stop
  case assign =>
    rintro l pre x W K ⟨i1, i2⟩ hK
    unfold mkP
    gi_wp2
    exact hK _ _ ((KeepsOthers.alloc _ _).from _) (KeepS.same ((Chg.refl _ W).alloc _) i1.out.size) ⟨i1.out.alloc _, i2.out⟩ ⟨W.heap.size, ⟨heap_at_new _ _ _ rfl, i1.out.size⟩, rfl⟩
  case body =>
    rintro l pre x a' W hl _ ⟨i1, i2⟩ ⟨Bp, hB, rfl⟩ hlt
    have q0 : W.cell? ⟨Bp, 0, none⟩ = some (.int .i64 x.tk) := by rw [cell_of_heap hB.out.1]; rfl
    have q6 : W.cell? ⟨b6, 0, none⟩ = some (.int .i64 m) := by rw [cell_of_heap (i1.out.heap G6.out (fun h => h))]; rfl
    by_cases hx : m ≤ x.tk
    · have h4 := i1.out.heap G4.out (fun h => h)
      have h5 := i1.out.heap G5.out (fun h => h)
      have s4 : W.cell? ⟨b4, 0, none⟩ = some (.int .i64 0) := by rw [cell_of_heap h4]; rfl
      have f4 := frozen_of_heap h4 0
      obtain ⟨W1, hW1⟩ : ∃ W1, W1 = W.setCell ⟨b4, 0, none⟩ (.int .i64 x.tk) := ⟨_, rfl⟩
      have c1 : Chg (fun q => q = b4) W W1 := by rw [hW1]; exact (Chg.refl (fun q => q = b4) W).setCell (p := ⟨b4, 0, none⟩) (fun _ => rfl) _
      have k4 : W1.heap[b4]? = some (.cells #[.int .i64 x.tk] 2 (0, 0)) := by rw [hW1]; exact Cat.heap_setCell_same h4 0 _
      have k5 := c1.heap h5 (fun h => by have := ORD.out; omega)
      have s5 : W1.cell? ⟨b5, 0, none⟩ = some (.bool false) := by rw [cell_of_heap k5]; rfl
      have f5 := frozen_of_heap k5 0
      have c2 : Chg (fun q => q = b5) W1 (W1.setCell ⟨b5, 0, none⟩ (.bool true)) := (Chg.refl (fun q => q = b5) W1).setCell (p := ⟨b5, 0, none⟩) (fun _ => rfl) _
      have r5 : (W1.setCell ⟨b5, 0, none⟩ (.bool true)).heap[b5]? = some (.cells #[.bool true] 4 (0, 0)) := Cat.heap_setCell_same k5 0 _
      have r4 := c2.heap k4 (fun h => by have := ORD.out; omega)
      have C2 : Hid (Chg (fun q => q = b4 ∨ q = b5) W (W1.setCell ⟨b5, 0, none⟩ (.bool true))) := (c1.mono (fun _ _ h => .inl h)).trans (c2.mono (fun _ _ h => .inr h))
      have FIN : Hid ((W1.setCell ⟨b5, 0, none⟩ (.bool true)).heap[b4]? = some (.cells #[.int .i64 x.tk] 2 (0, 0)) ∧ (W1.setCell ⟨b5, 0, none⟩ (.bool true)).heap[b5]? = some (.cells #[.bool true] 4 (0, 0))) := ⟨r4, r5⟩
      rw [hW1] at s5 f5
      clear h4 h5 c1 k4 k5 c2 r5 r4
      gi_wp2
      rw [← hW1]
      exact ⟨by rw [hW1]; exact ((KeepsOthers.setCell _ _ _).trans (KeepsOthers.setCell _ _ _)).from _, ⟨rfl, pre, x, rfl, i2.out, hx, FIN.out.1, FIN.out.2, (i1.out.mono (fun _ _ h => h.elim)).trans C2.out⟩⟩
    · gi_wp2
      exact ⟨(KeepsOthers.refl _).from _, KeepS.refl _ _ _, i1.out, fun y hy => by
        rcases List.mem_append.1 hy with h | h
        · exact i2.out y h
        · obtain rfl : y = x := by simpa using h
          omega⟩
  case done =>
    rintro D ys W hD hys ⟨i1, i2⟩ hK
    rw [hys] at i2
    have e0 : L.find? (fun p => decide (m ≤ p.tk)) = none := find_none (fun x hx => by have := i2.out x hx; simp; omega)
    have E0 := Lib.hid e0
    clear e0
    have h4 := i1.out.heap G4.out (fun h => h)
    have h5 := i1.out.heap G5.out (fun h => h)
    have s4 : W.cell? ⟨b4, 0, none⟩ = some (.int .i64 0) := by rw [cell_of_heap h4]; rfl
    have f4 := frozen_of_heap h4 0
    obtain ⟨W1, hW1⟩ : ∃ W1, W1 = W.setCell ⟨b4, 0, none⟩ (.int .i64 0) := ⟨_, rfl⟩
    have c1 : Chg (fun q => q = b4) W W1 := by rw [hW1]; exact (Chg.refl (fun q => q = b4) W).setCell (p := ⟨b4, 0, none⟩) (fun _ => rfl) _
    have k4 : W1.heap[b4]? = some (.cells #[.int .i64 0] 2 (0, 0)) := by rw [hW1]; exact Cat.heap_setCell_same h4 0 _
    have k5 := c1.heap h5 (fun h => by have := ORD.out; omega)
    have s5 : W1.cell? ⟨b5, 0, none⟩ = some (.bool false) := by rw [cell_of_heap k5]; rfl
    have f5 := frozen_of_heap k5 0
    have c2 : Chg (fun q => q = b5) W1 (W1.setCell ⟨b5, 0, none⟩ (.bool false)) := (Chg.refl (fun q => q = b5) W1).setCell (p := ⟨b5, 0, none⟩) (fun _ => rfl) _
    have r5 : (W1.setCell ⟨b5, 0, none⟩ (.bool false)).heap[b5]? = some (.cells #[.bool false] 4 (0, 0)) := Cat.heap_setCell_same k5 0 _
    have r4 := c2.heap k4 (fun h => by have := ORD.out; omega)
    have C2 : Hid (Chg (fun q => q = b4 ∨ q = b5) ww (W1.setCell ⟨b5, 0, none⟩ (.bool false))) := (i1.out.mono (fun _ _ h => h.elim)).trans ((c1.mono (fun _ _ h => .inl h)).trans (c2.mono (fun _ _ h => .inr h)))
    have FIN : Hid ((W1.setCell ⟨b5, 0, none⟩ (.bool false)).heap[b4]? = some (.cells #[.int .i64 0] 2 (0, 0)) ∧ (W1.setCell ⟨b5, 0, none⟩ (.bool false)).heap[b5]? = some (.cells #[.bool false] 4 (0, 0))) := ⟨r4, r5⟩
    have HK : Hid ((W1.setCell ⟨b5, 0, none⟩ (.bool false)).heap[D]? = some (.deferred (some []))) := (c1.mono (fun _ _ h => .inl h) |>.trans (c2.mono (fun _ _ h => .inr h)) : Chg (fun q => q = b4 ∨ q = b5) W _).heap hK (fun h => by have := ORD.out; omega)
    rw [hW1] at s5 f5
    clear h4 h5 c1 k4 k5 c2 r5 r4 hK
    gi_wp2
    rw [← hW1]
    refine leaves_marks [D] _ (by simp) (fun q hq => by have e : q = D := (by simpa using hq); rw [e]; exact HK.out) (fun W2 c3 => ⟨.tuple #[.int .i64 0, .bool false], ?_, by rw [E0.out]; rfl, ?_⟩)
    · have d4 : ¬ b4 ∈ [D] := fun h => notb FIN.out.1 HK.out rfl (by simpa using h)
      have d5 : ¬ b5 ∈ [D] := fun h => notb FIN.out.2 HK.out rfl (by simpa using h)
      have x4 := c3.heap FIN.out.1 d4
      have x5 := c3.heap FIN.out.2 d5
      exact results_cells2 (fn := Try.f79) (p := 4) (u := 5) (t1 := 2) (t2 := 4) rfl _ _ _ b4 b5 _ _ rfl rfl (by kernel_rfl) (by kernel_rfl) (by rw [cell_of_heap x4]; rfl) (by rw [cell_of_heap x5]; rfl)
    · exact (CWW.out.new C2.out (fun q hq => by have := ORD.out; omega)).new c3 (fun q hq => by have := ORD.out; have : q = D := (by simpa using hq); omega)
  case stop =>
    rintro D c pre W hD hp hx hK
    obtain ⟨rfl, pre', x, rfl, h3, h4, h5, h6, h7⟩ := hx.out
    obtain ⟨k, hk, hpk⟩ := hp
    have e0 : L.find? (fun p => decide (m ≤ p.tk)) = some x := find_at (a := pre') (r := L.drop k) (by have := List.take_append_drop k L; rw [← hpk] at this; simpa using this.symm) (fun y hy => by have := h3 y hy; simp; omega) (by simpa using h4)
    have E0 := Lib.hid e0
    clear e0
    have FIN : Hid (W.heap[b4]? = some (.cells #[.int .i64 x.tk] 2 (0, 0)) ∧ W.heap[b5]? = some (.cells #[.bool true] 4 (0, 0))) := ⟨h5, h6⟩
    have C2 := Lib.hid h7
    have HK := Lib.hid hK
    clear h5 h6 h7 hK
    gi_wp2
    refine leaves_marks [D] _ (by simp) (fun q hq => by have e : q = D := (by simpa using hq); rw [e]; exact HK.out) (fun W2 c3 => ⟨.tuple #[.int .i64 x.tk, .bool true], ?_, by rw [E0.out]; rfl, ?_⟩)
    · have d4 : ¬ b4 ∈ [D] := fun h => notb FIN.out.1 HK.out rfl (by simpa using h)
      have d5 : ¬ b5 ∈ [D] := fun h => notb FIN.out.2 HK.out rfl (by simpa using h)
      have x4 := c3.heap FIN.out.1 d4
      have x5 := c3.heap FIN.out.2 d5
      exact results_cells2 (fn := Try.f79) (p := 4) (u := 5) (t1 := 2) (t2 := 4) rfl _ _ _ b4 b5 _ _ rfl rfl (by kernel_rfl) (by kernel_rfl) (by rw [cell_of_heap x4]; rfl) (by rw [cell_of_heap x5]; rfl)
    · exact (CWW.out.new C2.out (fun q hq => by have := ORD.out; omega)).new c3 (fun q hq => by have := ORD.out; have : q = D := (by simpa using hq); omega)
set_option maxRecDepth 100000 in
set_option maxHeartbeats 2000000 in
theorem soon2_c (w : World) (F : Nat → Prop) (R : Nat) (s : St) (h : StIs w F R s) : Calls Try.prog 79 #[.pointer (some ⟨R, 0, none⟩), .int .i64 2] w fun e w' => e = .returned (optT (s.soon 2)) ∧ Chg (fun _ => False) w w' := by
  obtain ⟨R1, vr, vm, vl, h⟩ := h
  have e1 : s.soon 2 = (s.mid.find? (fun p => decide (s.m2 ≤ p.tk))).map (·.tk) := rfl
  rw [e1]
  clear e1
  obtain ⟨m, hm⟩ : ∃ m, m = s.m2 := ⟨_, rfl⟩
  obtain ⟨L, hL⟩ : ∃ L, L = s.mid := ⟨_, rfl⟩
  rw [← hL, ← hm]
  obtain ⟨W3, hW3⟩ : ∃ W, W = ((w.alloc (.cells #[.int .i64 0] 2)).alloc (.cells #[.bool false] 4)).alloc (.cells #[.int .i64 m, .int .i64 1099511627777] 24) := ⟨_, rfl⟩
  have c2 : Chg (fun _ => False) w ((w.alloc (.cells #[.int .i64 0] 2)).alloc (.cells #[.bool false] 4)) := ((Chg.refl (fun _ => False) w).alloc _).alloc _
  have c3 : Chg (fun _ => False) w W3 := by rw [hW3]; exact c2.alloc _
  obtain ⟨-, -, -, -, q6⟩ := (h.kept c2 (fun _ _ h => h)).cells
  obtain ⟨-, p2, -⟩ := (h.kept c3 (fun _ _ h => h)).cells
  have hM : Ags W3 vm L := by rw [hL]; exact Reads.kept h.ags.1 c3 (fun _ _ h => h)
  obtain ⟨va, vc, rfl⟩ := Reads.form hM
  have few : L.length ≤ 256 := by rw [hL]; exact h.inv.midFew
  obtain ⟨n, hn⟩ : ∃ n, n = L.length := ⟨_, rfl⟩
  have HN := Lib.hid hn
  rw [← hn] at p2 few
  rw [hW3] at p2
  rw [← hm] at q6
  have HM := Lib.hid hM
  rw [← hn] at HM
  have z3 : W3.heap.size = w.heap.size + 3 := by rw [hW3]; simp
  have G4 : Hid (W3.heap[w.heap.size]? = some (.cells #[.int .i64 0] 2 (0, 0))) := by
    show _ = _
    rw [hW3]; exact (((Chg.refl (fun _ => False) _).alloc _).alloc _).heap (heap_at_new w _ _ rfl) (fun h => h)
  have G5 : Hid (W3.heap[w.heap.size + 1]? = some (.cells #[.bool false] 4 (0, 0))) := by
    show _ = _
    rw [hW3]; exact ((Chg.refl (fun _ => False) _).alloc _).heap (heap_at_new _ _ _ (by simp)) (fun h => h)
  have G6 : Hid (W3.heap[w.heap.size + 1 + 1]? = some (.cells #[.int .i64 m, .int .i64 1099511627777] 24 (0, 0))) := by
    show _ = _
    rw [hW3]; exact heap_at_new _ _ _ (by simp)
  have ORD : Hid (W3.heap.size = w.heap.size + 3) := z3
  have C3 := Lib.hid c3
  have FIN : Hid (∀ (W : World) (u1 u2 u3 : Value) (x : Int) (b : Bool), Chg (fun _ => False) W3 W → (W.frozen? ⟨w.heap.size, 0, none⟩ = false ∧ (W.setCell ⟨w.heap.size, 0, none⟩ (.int .i64 x)).cell? ⟨w.heap.size + 1, 0, none⟩ = some (.bool false) ∧ (W.setCell ⟨w.heap.size, 0, none⟩ (.int .i64 x)).frozen? ⟨w.heap.size + 1, 0, none⟩ = false) ∧
      (((W.setCell ⟨w.heap.size, 0, none⟩ (.int .i64 x)).setCell ⟨w.heap.size + 1, 0, none⟩ (.bool b)).cell? ⟨w.heap.size, 0, none⟩ = some (.int .i64 x) ∧ ((W.setCell ⟨w.heap.size, 0, none⟩ (.int .i64 x)).setCell ⟨w.heap.size + 1, 0, none⟩ (.bool b)).cell? ⟨w.heap.size + 1, 0, none⟩ = some (.bool b)) ∧
      Chg (fun _ => False) w ((W.setCell ⟨w.heap.size, 0, none⟩ (.int .i64 x)).setCell ⟨w.heap.size + 1, 0, none⟩ (.bool b))) := fun W _ _ _ x b c => by
    have h4 := c.heap G4.out (fun h => h)
    have h5 := c.heap G5.out (fun h => h)
    have c1 : Chg (fun q => q = w.heap.size) W (W.setCell ⟨w.heap.size, 0, none⟩ (.int .i64 x)) := (Chg.refl (fun q => q = w.heap.size) W).setCell (p := ⟨w.heap.size, 0, none⟩) (fun _ => rfl) _
    have k4 : (W.setCell ⟨w.heap.size, 0, none⟩ (.int .i64 x)).heap[w.heap.size]? = some (.cells #[.int .i64 x] 2 (0, 0)) := Cat.heap_setCell_same h4 0 _
    have k5 := c1.heap h5 (fun h => by omega)
    have c2 : Chg (fun q => q = w.heap.size + 1) (W.setCell ⟨w.heap.size, 0, none⟩ (.int .i64 x)) ((W.setCell ⟨w.heap.size, 0, none⟩ (.int .i64 x)).setCell ⟨w.heap.size + 1, 0, none⟩ (.bool b)) := (Chg.refl (fun q => q = w.heap.size + 1) _).setCell (p := ⟨w.heap.size + 1, 0, none⟩) (fun _ => rfl) _
    have r5 : ((W.setCell ⟨w.heap.size, 0, none⟩ (.int .i64 x)).setCell ⟨w.heap.size + 1, 0, none⟩ (.bool b)).heap[w.heap.size + 1]? = some (.cells #[.bool b] 4 (0, 0)) := Cat.heap_setCell_same k5 0 _
    have r4 := c2.heap k4 (fun h => by omega)
    refine ⟨⟨frozen_of_heap h4 0, by rw [cell_of_heap k5]; rfl, frozen_of_heap k5 0⟩, ⟨by rw [cell_of_heap r4]; rfl, by rw [cell_of_heap r5]; rfl⟩, ((C3.out.trans c).new c1 (fun q hq => by omega)).new c2 (fun q hq => by omega)⟩
  clear h hL hm c2 c3 hM hn z3
  go_enter Try.func79, Try.ntmps79
  go_wp2_with fail
  rw [← hW3]
  clear hW3 p2 q6
  go_loopw [9, 38] (fun _ ci wr => ∃ k : Nat, k ≤ n ∧ ci = .int .i64 k ∧ Hid (∀ y ∈ L.take k, y.tk < m) ∧ Hid (Chg (fun _ => False) W3 wr)) (fun _ ci _ => n - (intOf ci).toNat)
  case atStart => exact ⟨0, by omega, rfl, by simp [Hid], Chg.refl _ _⟩
  case round =>
    obtain ⟨k, hk, rfl, hA, hC⟩ := hrel
    by_cases hlt : k < n
    · obtain ⟨p, hp⟩ := at_lt (show k < L.length by rw [← HN.out]; exact hlt)
      obtain ⟨g, o, rfl, h1, h2, h3⟩ := reads_some (n := n) (by have := HM.out; unfold Ags at this; rw [← HN.out] at this; exact this) (by omega)
      have hld := load_agE wr (fun j u hj => hC.out.cell (h3 j u hj) (fun h => h)) hp
      obtain ⟨Wb, hWb⟩ : ∃ W, W = wr.alloc (.cells #[.int .i64 p.tk, .int .i64 p.cnt, .int .i64 p.sum, .int .i64 p.mn, .int .i64 p.mx] 58) := ⟨_, rfl⟩
      have cb : Chg (fun _ => False) wr Wb := by rw [hWb]; exact (Chg.refl _ wr).alloc _
      have hP : AgAt Wb wr.heap.size p := by rw [hWb]; exact ag_new wr p
      obtain ⟨qa0, -⟩ := hP.cell
      have q6 : Wb.cell? ⟨w.heap.size + 1 + 1, 0, none⟩ = some (.int .i64 m) := by rw [cell_of_heap ((hC.out.trans cb).heap G6.out (fun h => h))]; rfl
      have q4 : Wb.cell? ⟨w.heap.size, 0, none⟩ = some (.int .i64 0) := by rw [cell_of_heap ((hC.out.trans cb).heap G4.out (fun h => h))]; rfl
      have HWB := Lib.hid hWb
      have e1 : L.take (k + 1) = L.take k ++ [p] := by rw [List.take_add_one, hp]; rfl
      have e2 : L = L.take k ++ p :: L.drop (k + 1) := by
        have := List.take_append_drop (k + 1) L
        rw [e1] at this
        simpa using this.symm
      have E1 := Lib.hid e1
      have E2 := Lib.hid e2
      have CB := Lib.hid cb
      by_cases hx : m ≤ p.tk
      · have e0 : L.find? (fun p => decide (m ≤ p.tk)) = some p := find_at (a := L.take k) (r := L.drop (k + 1)) e2 (fun y hy => by have := hA.out y hy; simp; omega) (by simpa using hx)
        have E0 := Lib.hid e0
        obtain ⟨⟨f1, f2, f3⟩, hf2, hf3⟩ := FIN.out Wb undef undef undef p.tk true (hC.out.trans cb)
        have F2 := Lib.hid hf2
        have F3 := Lib.hid hf3
        rw [hWb] at qa0 q6 q4 f1 f2 f3
        clear hWb cb hP e1 e2 h1 h2 h3 hp hf2 hf3 e0
        go_wp2_with (first | refine wpList_load rfl 58 _ rfl _ _ rfl hld ?_)
        rw [← HWB.out]
        exact bodyPost_ret (v := .tuple #[.int .i64 p.tk, .bool true]) (results_cells2 (fn := Try.f79) (p := 4) (u := 5) (t1 := 2) (t2 := 4) rfl _ _ _ w.heap.size (w.heap.size + 1) _ _ rfl rfl (by kernel_rfl) (by kernel_rfl) F2.out.1 F2.out.2) rfl ⟨by rw [E0.out]; rfl, F3.out⟩
      · rw [hWb] at qa0 q6
        clear hWb cb hP e1 e2 h1 h2 h3 hp q4
        go_wp2_with (first | refine wpList_load rfl 58 _ rfl _ _ rfl hld ?_)
        rw [← HWB.out]
        refine ⟨⟨k + 1, by omega, rfl, fun y hy => ?_, hC.out.trans CB.out⟩, by simp only [intOf]; omega⟩
        rw [E1.out] at hy
        rcases List.mem_append.1 hy with h | h
        · exact hA.out y h
        · obtain rfl : y = p := by simpa using h
          omega
    · obtain rfl : k = n := by omega
      have e0 : L.find? (fun p => decide (m ≤ p.tk)) = none := find_none (fun x hx => by
        have := hA.out x (by rw [HN.out, List.take_length]; exact hx)
        simp; omega)
      have E0 := Lib.hid e0
      obtain ⟨⟨f1, f2, f3⟩, hf2, hf3⟩ := FIN.out wr undef undef undef 0 false hC.out
      have q4 : wr.cell? ⟨w.heap.size, 0, none⟩ = some (.int .i64 0) := by rw [cell_of_heap (hC.out.heap G4.out (fun h => h))]; rfl
      have F2 := Lib.hid hf2
      have F3 := Lib.hid hf3
      clear hf2 hf3 e0
      go_wp2_with fail
      exact bodyPost_ret (v := .tuple #[.int .i64 0, .bool false]) (results_cells2 (fn := Try.f79) (p := 4) (u := 5) (t1 := 2) (t2 := 4) rfl _ _ _ w.heap.size (w.heap.size + 1) _ _ rfl rfl (by kernel_rfl) (by kernel_rfl) F2.out.1 F2.out.2) rfl ⟨by rw [E0.out]; rfl, F3.out⟩
theorem soon_c (w : World) (F : Nat → Prop) (R : Nat) (s : St) (t : Nat) (ht : t = 1 ∨ t = 2) (h : StIs w F R s) : Calls Try.prog 79 #[.pointer (some ⟨R, 0, none⟩), .int .i64 t] w fun e w' => e = .returned (optT (s.soon t)) ∧ Chg (fun _ => False) w w' := by
  rcases ht with rfl | rfl
  · exact soon1_c w F R s h
  · exact soon2_c w F R s h
end Go.Proofs.Ytmnnahkaenikkaa
