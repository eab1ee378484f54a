/- A stock whose mark is set, whose row of aggregates is another. -/
import Derived.Test.YtmnnahkaenikkaaStk5
namespace Go.Proofs.Ytmnnahkaenikkaa
open Go.RowKit Go.Cat
theorem tier_push (s : St) (t : Nat) (a : Ag) (m : Int) : (s.push t a).setM t m = s.tier t (s.agg t ++ [a]) m := rfl
theorem StAt.mark {w : World} {F : Nat → Prop} {R R1 : Nat} {vr vm vl : Value} {s : St} (h : StAt w F R R1 vr vm vl s) (t : Nat) (ht : t = 1 ∨ t = 2) :
    w.cell? ⟨R, 4 + t, none⟩ = some (.int .i64 (s.mk_ t)) ∧ w.frozen? ⟨R, 4 + t, none⟩ = false ∧ w.cell? ⟨R, 1 + t, none⟩ = some (if t = 1 then vm else vl) ∧ w.frozen? ⟨R, 1 + t, none⟩ = false := by
  have hd := h.hd
  refine ⟨?_, frozen_of_heap hd _, ?_, frozen_of_heap hd _⟩
  · rcases ht with rfl | rfl <;> (rw [cell_of_heap hd]; rfl)
  · rcases ht with rfl | rfl <;> (rw [cell_of_heap hd]; rfl)
theorem StAt.own {w : World} {F : Nat → Prop} {R R1 : Nat} {vr vm vl : Value} {s : St} (h : StAt w F R R1 vr vm vl s) (t : Nat) (ht : t = 1 ∨ t = 2) : OAgs w (if t = 1 then vm else vl) (s.agg t) ∧ (∀ k, (if t = 1 then vm else vl).ownBlock = some k → k ≠ R ∧ F k) := by
  rcases ht with rfl | rfl
  · exact ⟨h.mid, fun k hk => ⟨(h.dm k hk).1, h.fm k hk⟩⟩
  · exact ⟨h.long, fun k hk => ⟨(h.dl k hk).1, h.fl k hk⟩⟩
/-- The mark alone is set. -/
theorem StAt.setm {w : World} {F : Nat → Prop} {R R1 : Nat} {vr vm vl : Value} {s : St} (h : StAt w F R R1 vr vm vl s) (t : Nat) (ht : t = 1 ∨ t = 2) {m : Int} (inv : Inv (s.setM t m)) :
    StIs (w.setCell ⟨R, 4 + t, none⟩ (.int .i64 m)) (ext F w (w.setCell ⟨R, 4 + t, none⟩ (.int .i64 m))) R (s.setM t m) ∧ Chg F w (w.setCell ⟨R, 4 + t, none⟩ (.int .i64 m)) := by
  have hd := Cat.heap_setCell_same h.hd (4 + t) (.int .i64 m)
  have c : Chg (fun k => k = R) w (w.setCell ⟨R, 4 + t, none⟩ (.int .i64 m)) := (Chg.refl (fun k => k = R) w).setCell (p := ⟨R, 4 + t, none⟩) (fun _ => rfl) _
  obtain ⟨ho, hf⟩ := h.own t ht
  refine ⟨?_, c.mono (fun k _ e => by rw [e]; exact h.fR)⟩
  rw [setM_tier] at inv ⊢
  refine h.tier t ht (v' := if t = 1 then vm else vl) (c.mono (fun k _ e => .inl e)) ?_ (ho.chgd c (fun k hk => (hf k hk).1)) (fun k hk => .inl hk) inv
  rw [hd]
  rcases ht with rfl | rfl <;> rfl
/-- The row is another one. -/
theorem StAt.seta {w w7 : World} {F : Nat → Prop} {R R1 : Nat} {vr vm vl : Value} {s : St} (h : StAt w F R R1 vr vm vl s) (t : Nat) (ht : t = 1 ∨ t = 2) {v' : Value} {l : List Ag} (ho : OAgs w7 v' l)
    (c : Chg (fun k => (if t = 1 then vm else vl).ownBlock = some k) w w7) (hv : ∀ k, v'.ownBlock = some k → (if t = 1 then vm else vl).ownBlock = some k ∨ w.heap.size ≤ k) (inv : Inv (s.setA t l)) :
    StIs (w7.setCell ⟨R, 1 + t, none⟩ v') (ext F w (w7.setCell ⟨R, 1 + t, none⟩ v')) R (s.setA t l) ∧ Chg F w (w7.setCell ⟨R, 1 + t, none⟩ v') ∧ (w7.cell? ⟨R, 1 + t, none⟩ = some (if t = 1 then vm else vl) ∧ w7.frozen? ⟨R, 1 + t, none⟩ = false) := by
  obtain ⟨ho0, hf⟩ := h.own t ht
  have hd7 := c.heap h.hd (fun e => (hf _ e).1 rfl)
  have hd := Cat.heap_setCell_same hd7 (1 + t) v'
  have c8 : Chg (fun k => k = R) w7 (w7.setCell ⟨R, 1 + t, none⟩ v') := (Chg.refl (fun k => k = R) w7).setCell (p := ⟨R, 1 + t, none⟩) (fun _ => rfl) _
  have c9 : Chg (fun k => k = R ∨ (if t = 1 then vm else vl).ownBlock = some k) w (w7.setCell ⟨R, 1 + t, none⟩ v') := (c.mono (fun k _ e => .inr e)).trans (c8.mono (fun k _ e => .inl e))
  have hnR : ∀ k, v'.ownBlock = some k → ¬ k = R := fun k hk e => by
    rcases hv k hk with h' | h'
    · exact (hf k h').1 e
    · have := h.lt; omega
  have es : s.setA t l = s.tier t l (s.mk_ t) := by rcases ht with rfl | rfl <;> rfl
  refine ⟨?_, c9.mono (fun k _ e => ?_), ?_, frozen_of_heap hd7 _⟩
  · rw [es] at inv ⊢
    refine h.tier t ht (v' := v') c9 ?_ (ho.chgd c8 hnR) hv inv
    rw [hd]
    rcases ht with rfl | rfl <;> rfl
  · rcases e with e | e
    · rw [e]; exact h.fR
    · exact (hf k e).2
  · rcases ht with rfl | rfl <;> (rw [cell_of_heap hd7]; rfl)
/-- The row is another one, and the mark is set. -/
theorem StAt.pushm {w w7 : World} {F : Nat → Prop} {R R1 : Nat} {vr vm vl : Value} {s : St} (h : StAt w F R R1 vr vm vl s) (t : Nat) (ht : t = 1 ∨ t = 2) {v' : Value} {l : List Ag} (ho : OAgs w7 v' l)
    (c : Chg (fun k => (if t = 1 then vm else vl).ownBlock = some k) w w7) (hv : ∀ k, v'.ownBlock = some k → (if t = 1 then vm else vl).ownBlock = some k ∨ w.heap.size ≤ k) {m : Int} (inv : Inv (s.tier t l m)) :
    (StIs ((w7.setCell ⟨R, 1 + t, none⟩ v').drew.setCell ⟨R, 4 + t, none⟩ (.int .i64 m)) (ext F w ((w7.setCell ⟨R, 1 + t, none⟩ v').drew.setCell ⟨R, 4 + t, none⟩ (.int .i64 m))) R (s.tier t l m) ∧ Chg F w ((w7.setCell ⟨R, 1 + t, none⟩ v').drew.setCell ⟨R, 4 + t, none⟩ (.int .i64 m))) ∧
    (w7.cell? ⟨R, 1 + t, none⟩ = some (if t = 1 then vm else vl) ∧ w7.frozen? ⟨R, 1 + t, none⟩ = false) ∧
    ((w7.setCell ⟨R, 1 + t, none⟩ v').drew.cell? ⟨R, 4 + t, none⟩ = some (.int .i64 (s.mk_ t)) ∧ (w7.setCell ⟨R, 1 + t, none⟩ v').drew.frozen? ⟨R, 4 + t, none⟩ = false) := by
  obtain ⟨ho0, hf⟩ := h.own t ht
  have hd7 := c.heap h.hd (fun e => (hf _ e).1 rfl)
  have hd : (w7.setCell ⟨R, 1 + t, none⟩ v').drew.heap[R]? = _ := Cat.heap_setCell_same hd7 (1 + t) v'
  have hd9 := Cat.heap_setCell_same hd (4 + t) (.int .i64 m)
  have c8 : Chg (fun k => k = R) w7 (w7.setCell ⟨R, 1 + t, none⟩ v') := (Chg.refl (fun k => k = R) w7).setCell (p := ⟨R, 1 + t, none⟩) (fun _ => rfl) _
  have c8' : Chg (fun k => k = R) w7 ((w7.setCell ⟨R, 1 + t, none⟩ v').drew.setCell ⟨R, 4 + t, none⟩ (.int .i64 m)) := c8.drew.setCell (p := ⟨R, 4 + t, none⟩) (fun _ => rfl) _
  have c9 : Chg (fun k => k = R ∨ (if t = 1 then vm else vl).ownBlock = some k) w ((w7.setCell ⟨R, 1 + t, none⟩ v').drew.setCell ⟨R, 4 + t, none⟩ (.int .i64 m)) := (c.mono (fun k _ e => .inr e)).trans (c8'.mono (fun k _ e => .inl e))
  have hnR : ∀ k, v'.ownBlock = some k → ¬ k = R := fun k hk e => by
    rcases hv k hk with h' | h'
    · exact (hf k h').1 e
    · have := h.lt; omega
  refine ⟨⟨?_, c9.mono (fun k _ e => ?_)⟩, ⟨?_, frozen_of_heap hd7 _⟩, ⟨?_, frozen_of_heap hd _⟩⟩
  · refine h.tier t ht (v' := v') c9 ?_ (ho.chgd c8' hnR) hv inv
    rw [hd9]
    rcases ht with rfl | rfl <;> rfl
  · rcases e with e | e
    · rw [e]; exact h.fR
    · exact (hf k e).2
  · rcases ht with rfl | rfl <;> (rw [cell_of_heap hd7]; rfl)
  · rcases ht with rfl | rfl <;> (rw [cell_of_heap hd]; rfl)
theorem ext_two {F : Nat → Prop} {a b c : World} (h1 : a.heap.size ≤ b.heap.size) (h2 : b.heap.size ≤ c.heap.size) {R : Nat} {s : St} (h : StIs c (ext (ext F a b) b c) R s) : StIs c (ext F a c) R s := h.mono (fun _ hk => ext_ext h1 h2 hk)
theorem ext_two2 {F : Nat → Prop} {a b c d : World} (h1 : a.heap.size ≤ b.heap.size) (h2 : b.heap.size ≤ c.heap.size) {R : Nat} {s : St} (h : StIs d (ext (ext F a b) c d) R s) : StIs d (ext (ext F a c) c d) R s := h.mono (fun k hk => by
  rcases hk with h | h
  · rcases h with h | h
    · exact .inl (.inl h)
    · exact .inl (.inr ⟨h.1, by omega⟩)
  · exact .inr h)
theorem StIs.ext {F : Nat → Prop} {a b : World} {R : Nat} {s : St} (h : StIs b F R s) : StIs b (ext F a b) R s := h.mono (fun _ hk => .inl hk)
/-- A mark that is told. -/
def mkAt (w : World) (R k : Nat) : Int := match w.cell? ⟨R, k, none⟩ with
  | some (.int _ m) => m
  | _ => 0
theorem StIs.mkAt {w : World} {F : Nat → Prop} {R : Nat} {s : St} (h : StIs w F R s) (t : Nat) (ht : t = 1 ∨ t = 2) : mkAt w R (4 + t) = s.mk_ t := by
  obtain ⟨R1, vr, vm, vl, h⟩ := h
  have := (h.mark t ht).1
  unfold Go.Proofs.Ytmnnahkaenikkaa.mkAt
  rw [this]
theorem rolled_done {f t : Nat} {to : Int} {s : St} {md : Int} (h : to ≤ s.mk_ t) : rolledF f t to s md = (s, md, 0) := by
  cases f with
  | zero => rfl
  | succ n => unfold rolledF; rw [if_pos h]
theorem rolled_none {f t : Nat} {to : Int} {s : St} {md : Int} (h : ¬ to ≤ s.mk_ t) (hs : s.soon t = none) : rolledF (f + 1) t to s md = (s.setM t to, md, 0) := by
  rw [rolledF, if_neg h, hs]
theorem rolled_past {f t : Nat} {to nx : Int} {s : St} {md : Int} (h : ¬ to ≤ s.mk_ t) (hs : s.soon t = some nx) (hn : to ≤ nx) : rolledF (f + 1) t to s md = (s.setM t to, md, 0) := by
  rw [rolledF, if_neg h, hs]
  show (if to ≤ nx then _ else _) = _
  rw [if_pos hn]
theorem rolled_full {f t : Nat} {to nx : Int} {s : St} {md : Int} (h : ¬ to ≤ s.mk_ t) (hs : s.soon t = some nx) (hn : ¬ to ≤ nx) (hf : 256 ≤ (s.agg t).length) : rolledF (f + 1) t to s md = (s.setM t (if s.mk_ t < wst t nx then wst t nx else s.mk_ t), md, 6) := by
  rw [rolledF, if_neg h, hs]
  show (if to ≤ nx then _ else _) = _
  rw [if_neg hn, if_pos hf]
theorem rolled_step {f t : Nat} {to nx : Int} {s : St} {md : Int} (h : ¬ to ≤ s.mk_ t) (hs : s.soon t = some nx) (hn : ¬ to ≤ nx) (hf : ¬ 256 ≤ (s.agg t).length) : rolledF (f + 1) t to s md = rolledF f t to (s.tier t (s.agg t ++ [s.win t nx]) (wst t nx + wid t)) (md + 1) := by
  rw [rolledF, if_neg h, hs]
  show (if to ≤ nx then _ else _) = _
  rw [if_neg hn, if_neg hf]
  rfl
end Go.Proofs.Ytmnnahkaenikkaa
