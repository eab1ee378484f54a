/- Drop, Drop2, Drop3, Drop4, merged. -/
import Derived.Test.YtmnnahkaenikkaaExF
import Derived.Test.YtmnnahkaenikkaaExP
/- Stock.Drop, with expire's test. -/
namespace Go.Proofs.Ytmnnahkaenikkaa
open Go.RowKit Go.Cat
/-- Expire's test, in every world in which only blocks of S, and new ones, are others than in w. -/
def GoneS (w : World) (S : Nat → Prop) (caps : Array Value) (gn : Int → Int → Bool) : Prop := ∀ W x y, Chg S w W → Calls Try.prog 42 (#[.agg #[.int .i64 x, .int .i64 y]] ++ caps) W fun e w' => e = .returned (.bool (gn x y)) ∧ Chg (fun _ => False) W w'
theorem GoneS.at {w W : World} {S : Nat → Prop} {caps : Array Value} {gn : Int → Int → Bool} (h : GoneS w S caps gn) (c : Chg S w W) : GoneS W (fun k => S k ∧ k < w.heap.size) caps gn := fun W2 x y c2 => h W2 x y (c.trans (c2.mono (fun _ _ h => h.1)))
theorem GoneS.none {w : World} {S : Nat → Prop} {caps : Array Value} {gn : Int → Int → Bool} (h : GoneS w S caps gn) : GoneS w (fun _ => False) caps gn := fun W2 x y c2 => h W2 x y (c2.mono (fun _ _ h => h.elim))
/-- What stays. -/
def St.dropped (s : St) (t : Nat) (gn : Int → Int → Bool) : St := if t = 0 then { s with raw := s.raw.filter fun p => !gn p.tk (p.tk + 1) } else s.setA t (keepF (fun a => gn a.tk (a.tk + wid t)) (s.agg t))
def six (b1 b2 b3 b4 b5 b6 : Nat) : Array Value := #[.pointer (some ⟨b1, 0, none⟩), .pointer (some ⟨b2, 0, none⟩), .pointer (some ⟨b3, 0, none⟩), .pointer (some ⟨b4, 0, none⟩), .pointer (some ⟨b5, 0, none⟩), .pointer (some ⟨b6, 0, none⟩)]
theorem inR_all {s : St} (h : Inv s) : inR s.raw 0 1099511627777 = s.raw := by
  unfold inR
  rw [List.filter_eq_self]
  intro p hp
  have := h.tks p hp
  rw [decide_eq_true_eq]
  omega
def rawK (gn : Int → Int → Bool) (L : List Pt) (k : Nat) : List Pt := ((L.take k).filter fun p => !gn p.tk (p.tk + 1)) ++ L.drop k
theorem rawK_keep {gn : Int → Int → Bool} {L : List Pt} {k : Nat} {p : Pt} (hp : L[k]? = some p) (hg : gn p.tk (p.tk + 1) = false) : rawK gn L (k + 1) = rawK gn L k := by
  have hk := (List.getElem?_eq_some_iff.1 hp).1
  have e := (List.getElem?_eq_some_iff.1 hp).2
  unfold rawK
  rw [List.take_add_one, hp, List.filter_append, List.drop_eq_getElem_cons hk, e]
  simp [hg]
theorem rawK_cut {gn : Int → Int → Bool} {L : List Pt} (hs : Sorted L) {k : Nat} {p : Pt} (hp : L[k]? = some p) (hg : gn p.tk (p.tk + 1) = true) : rawK gn L (k + 1) = outR (rawK gn L k) p.tk (p.tk + 1) := by
  have hk := (List.getElem?_eq_some_iff.1 hp).1
  have e := (List.getElem?_eq_some_iff.1 hp).2
  have hsp : L = L.take k ++ p :: L.drop (k + 1) := by
    have := List.take_append_drop k L
    rw [List.drop_eq_getElem_cons hk, e] at this
    exact this.symm
  have hs2 := hs
  unfold Sorted at hs2
  rw [hsp, List.pairwise_append, List.pairwise_cons] at hs2
  obtain ⟨h1, ⟨h2, h3⟩, h4⟩ := hs2
  have ea : ((L.take k).filter fun p => !gn p.tk (p.tk + 1)).filter (fun q => !decide (p.tk ≤ q.tk ∧ q.tk < p.tk + 1)) = (L.take k).filter fun p => !gn p.tk (p.tk + 1) := by
    rw [List.filter_eq_self]
    intro q hq
    have := h4 q (List.mem_filter.1 hq).1 p List.mem_cons_self
    simp
    omega
  have eb : (L.drop (k + 1)).filter (fun q => !decide (p.tk ≤ q.tk ∧ q.tk < p.tk + 1)) = L.drop (k + 1) := by
    rw [List.filter_eq_self]
    intro q hq
    have := h2 q hq
    simp
    omega
  have lhs : rawK gn L (k + 1) = ((L.take k).filter fun p => !gn p.tk (p.tk + 1)) ++ L.drop (k + 1) := by
    unfold rawK
    rw [List.take_add_one, hp, List.filter_append]
    simp [hg]
  have rhs : rawK gn L k = ((L.take k).filter fun p => !gn p.tk (p.tk + 1)) ++ p :: L.drop (k + 1) := by
    unfold rawK
    rw [List.drop_eq_getElem_cons hk, e]
  rw [lhs, rhs]
  unfold outR
  rw [List.filter_append, ea, List.filter_cons_of_neg (by simp; omega), eb]
theorem wst0 (x : Int) : wst 0 x = x := by unfold wst; rw [show wid 0 = 1 from rfl]; omega
theorem load_fn (w : World) {g : Nat} {v : Value} (h : w.cell? ⟨g, 0, none⟩ = some v) : (Instr.loadAt 27 (.pointer (some ⟨g, 0, none⟩))).run Try.prog w = .ok v w := run_loadAt_one w _ (by kernel_rfl) _ v h
set_option maxRecDepth 100000 in
set_option maxHeartbeats 2000000 in
theorem drop1_c (w : World) (x5 x4 b1 b2 b3 b4 b5 b6 : Nat) (t : Nat) (ht : t = 1 ∨ t = 2) (gn : Int → Int → Bool) (h5 : w.cell? ⟨x5, 0, none⟩ = some (.func (.func 42) #[] (six b1 b2 b3 b4 b5 b6))) (h4 : w.cell? ⟨x4, 0, none⟩ = some (.int .i64 t)) (hg : GoneS w (fun _ => False) (six b1 b2 b3 b4 b5 b6) gn) :
    AgFun w 71 #[.pointer (some ⟨x5, 0, none⟩), .pointer (some ⟨x4, 0, none⟩)] (fun a => gn (wst t a.tk) (wst t a.tk + wid t)) := fun W0 p p0 p1 cw => by
  show Calls _ _ #[.agg #[.int .i64 p.tk, .int .i64 p.cnt, .int .i64 p.sum, .int .i64 p.mn, .int .i64 p.mx], .pointer (some ⟨x5, 0, none⟩), .pointer (some ⟨x4, 0, none⟩)] W0 fun e w' => e = .returned (.bool (gn (wst t p.tk) (wst t p.tk + wid t))) ∧ Chg (fun _ => False) W0 w'
  obtain ⟨W, hW⟩ : ∃ W, W = W0.alloc (.cells #[.int .i64 p.tk, .int .i64 p.cnt, .int .i64 p.sum, .int .i64 p.mn, .int .i64 p.mx] 58) := ⟨_, rfl⟩
  have cW : Chg (fun _ => False) W0 W := by rw [hW]; exact (Chg.refl _ W0).alloc _
  have hP : AgAt W W0.heap.size p := by rw [hW]; exact ag_new W0 p
  obtain ⟨qa, -⟩ := hP.cell
  have Q0 := Lib.hid qa
  have Q5 := Lib.hid ((cw.trans cW).cell h5 (fun h => h))
  have Q4 := Lib.hid ((cw.trans cW).cell h4 (fun h => h))
  have OC := Lib.hid (fun W => of_c W t p.tk (by omega) p0 p1)
  obtain ⟨x, hx⟩ : ∃ x, x = wst t p.tk := ⟨_, rfl⟩
  obtain ⟨y, hy⟩ : ∃ y, y = wst t p.tk + wid t := ⟨_, rfl⟩
  rw [← hx] at OC hy ⊢
  rw [← hy] at OC ⊢
  have GC : Hid (∀ W2, Chg (fun _ => False) W W2 → Calls Try.prog 42 #[.agg #[.int .i64 x, .int .i64 y], .pointer (some ⟨b1, 0, none⟩), .pointer (some ⟨b2, 0, none⟩), .pointer (some ⟨b3, 0, none⟩), .pointer (some ⟨b4, 0, none⟩), .pointer (some ⟨b5, 0, none⟩), .pointer (some ⟨b6, 0, none⟩)] W2 fun e w' => e = .returned (.bool (gn x y)) ∧ Chg (fun _ => False) W2 w') := fun W2 c2 => hg W2 x y ((cw.trans cW).trans c2)
  obtain ⟨b, hb⟩ : ∃ b, b = gn x y := ⟨_, rfl⟩
  rw [← hb] at GC ⊢
  have CW := Lib.hid cW
  have HW := Lib.hid hW
  unfold six at Q5
  clear hW cW hP qa hg h5 h4 hx hy hb
  go_enter Try.func71, Try.ntmps71
  go_wp2_with fail
  rw [← HW.out]
  refine wpT.begin (fun _ => False) 7 (by kernel_rfl) rfl ?_
  refine wpT.take 0 rfl (by kernel_rfl) (fun _ _ _ h => h) rfl (fun w' hw' => exec_load _ _ _ _ rfl rfl (load_fn w' (hw'.cell Q5.out (fun h => h)))) ?_
  simp only [Act.put, List.setIfInBounds_toArray, List.set_cons_zero, List.set_cons_succ]
  refine wpT.ld 1 rfl (by kernel_rfl) (fun _ _ _ _ h => h) rfl _ _ rfl (by kernel_rfl) ⟨x4, 0, none⟩ rfl _ (Q4.out) (fun h => h) ?_
  simp only [Act.put, List.setIfInBounds_toArray, List.set_cons_zero, List.set_cons_succ]
  refine wpT.take 2 rfl (by kernel_rfl) (fun _ _ _ h => h) rfl (fun w' hw' => by go_simp <;> with_reducible rfl) ?_
  simp only [Act.put, List.setIfInBounds_toArray, List.set_cons_zero, List.set_cons_succ]
  refine wpT.ld 3 rfl (by kernel_rfl) (fun _ _ _ _ h => h) rfl _ _ rfl (by kernel_rfl) ⟨W0.heap.size, 0, none⟩ rfl _ (Q0.out) (fun h => h) ?_
  simp only [Act.put, List.setIfInBounds_toArray, List.set_cons_zero, List.set_cons_succ]
  refine wpT.call 4 rfl (by kernel_rfl) rfl (fun K hK => ?_)
  go_wp2_with fail
  refine (OC.out _).mono ?_
  rintro e w2 ⟨rfl, c2⟩
  have C2 : Hid (Chg (fun _ => False) W w2) := (Chg.refl (fun _ => False) W).drew.trans c2
  refine hK _ _ c2 ?_
  clear hK c2
  try (simp only [Act.put, List.setIfInBounds_toArray, List.set_cons_zero, List.set_cons_succ])
  refine wpT.call 5 rfl (by kernel_rfl) rfl (fun K hK => ?_)
  go_wp2_with fail
  refine (GC.out _ C2.out).mono ?_
  rintro e w3 ⟨rfl, c3⟩
  have C3 := Lib.hid c3
  refine hK _ _ c3 ?_
  clear hK c3
  try (simp only [Act.put, List.setIfInBounds_toArray, List.set_cons_zero, List.set_cons_succ])
  refine wpT.take 6 rfl (by kernel_rfl) (fun _ _ _ h => h) rfl (fun w' hw' => by go_simp <;> with_reducible rfl) ?_
  simp only [Act.put, List.setIfInBounds_toArray, List.set_cons_zero, List.set_cons_succ]
  refine wpT.done (by kernel_rfl) ?_
  go_wp2_with fail
  go_ret
  exact ⟨rfl, CW.out.trans (C2.out.trans C3.out)⟩
end Go.Proofs.Ytmnnahkaenikkaa

/- Stock.Drop of a wide tier. -/
namespace Go.Proofs.Ytmnnahkaenikkaa
open Go.RowKit Go.Cat
theorem dropped_ok {s : St} (h : Inv s) (t : Nat) (ht : t = 1 ∨ t = 2) (f : Ag → Bool) : Inv (s.setA t (keepF f (s.agg t))) := by
  obtain ⟨h1, h2, h3, h4⟩ := h.mkOk t ht
  rw [show s.setA t (keepF f (s.agg t)) = s.tier t (keepF f (s.agg t)) (s.mk_ t) by rcases ht with rfl | rfl <;> rfl]
  exact h.tier t ht (fun a ha => h1 a (List.mem_filter.1 ha).1) (Nat.le_trans (List.length_filter_le _ _) h2) ⟨h3, h4⟩
theorem keep_cong {f g : Ag → Bool} {l : List Ag} (h : ∀ a ∈ l, f a = g a) : keepF f l = keepF g l := by
  unfold keepF
  exact List.filter_congr (fun a ha => by rw [h a ha])
set_option maxRecDepth 100000 in
set_option maxHeartbeats 4000000 in
theorem dropA1_c (w : World) (F : Nat → Prop) (R : Nat) (s : St) (b1 b2 b3 b4 b5 b6 : Nat) (gn : Int → Int → Bool) (h : StIs w F R s) (hg : GoneS w (fun k => F k ∧ k < w.heap.size) (six b1 b2 b3 b4 b5 b6) gn) :
    Calls Try.prog 41 #[.pointer (some ⟨R, 0, none⟩), .int .i64 1, .func (.func 42) #[] (six b1 b2 b3 b4 b5 b6)] w fun e w' => e = .returned (.int .i64 (s.len 1 - (s.dropped 1 gn).len 1)) ∧ StIs w' (ext F w w') R (s.dropped 1 gn) ∧ Chg F w w' := by
  have hdr : s.dropped 1 gn = s.setA 1 (keepF (fun a => gn (wst 1 a.tk) (wst 1 a.tk + wid 1)) (s.agg 1)) := by
    show s.setA 1 (keepF _ _) = _
    congr 1
    refine keep_cong (fun a ha => ?_)
    rw [wst_al ((h.inv.mkOk 1 (by omega)).1 a ha).2.2]
  rw [hdr]
  obtain ⟨KL, hK0⟩ : ∃ KL, KL = keepF (fun a => gn (wst 1 a.tk) (wst 1 a.tk + wid 1)) (s.agg 1) := ⟨_, rfl⟩
  have hiv := dropped_ok h.inv 1 (by omega) (fun a => gn (wst 1 a.tk) (wst 1 a.tk + wid 1))
  rw [← hK0] at hiv ⊢
  have hKl : KL.length ≤ 256 := by rw [hK0]; exact Nat.le_trans (List.length_filter_le _ _) (h.inv.mkOk 1 (by omega)).2.1
  obtain ⟨W, hW⟩ : ∃ W, W = (w.alloc (.cells #[.int .i64 1] 3)).alloc (.cells #[.func (.func 42) #[] (six b1 b2 b3 b4 b5 b6)] 27) := ⟨_, rfl⟩
  have cW : Chg (fun _ => False) w W := by rw [hW]; exact ((Chg.refl _ w).alloc _).alloc _
  have zW : W.heap.size = w.heap.size + 2 := by rw [hW]; simp
  have hb4 : W.heap[w.heap.size]? = some (.cells #[.int .i64 1] 3 (0, 0)) := by rw [hW]; exact Chg.heap ((Chg.refl (fun _ => False) _).alloc _) (heap_at_new w _ _ rfl) (fun h => h)
  have hb5 : W.heap[w.heap.size + 1]? = some (.cells #[.func (.func 42) #[] (six b1 b2 b3 b4 b5 b6)] 27 (0, 0)) := by rw [hW]; exact heap_at_new _ _ _ (by simp)
  have hO := h.old.same cW
  have LC := Lib.hid (stlen_c W _ R s 1 (by omega) hO)
  have WC := Lib.hid (wide_c W 1 (by omega))
  have q4 : W.cell? ⟨w.heap.size, 0, none⟩ = some (.int .i64 1) := by rw [cell_of_heap hb4]; rfl
  have Q4 := Lib.hid q4
  have Q5 : Hid (W.cell? ⟨w.heap.size + 1, 0, none⟩ = some (.func (.func 42) #[] (six b1 b2 b3 b4 b5 b6))) := by show _ = _; rw [cell_of_heap hb5]; rfl
  have HB4 := Lib.hid hb4
  have HO := Lib.hid hO
  have HK0 := Lib.hid hK0
  have HIV := Lib.hid hiv
  have CW := Lib.hid cW
  have HW := Lib.hid hW
  have ZW := Lib.hid zW
  have AF := Lib.hid (drop1_c W.drew (w.heap.size + 1) w.heap.size b1 b2 b3 b4 b5 b6 1 (by omega) gn Q5.out Q4.out (fun W2 x y c2 => hg.none W2 x y ((cW.trans (Chg.refl (fun _ => False) W).drew).trans c2)))
  have ln : (s.setA 1 KL).len 1 = (KL.length : Int) := rfl
  have ls : s.len 1 = ((s.agg 1).length : Int) := rfl
  have hlsl := (h.inv.mkOk 1 (by omega)).2.1
  obtain ⟨nl, hnl⟩ : ∃ nl, nl = s.len 1 := ⟨_, rfl⟩
  rw [← hnl] at LC ls ⊢
  rw [ln]
  have hsub : wrap64 (nl - (KL.length : Int)) = nl - KL.length := by unfold wrap64; omega
  obtain ⟨kl, hkl⟩ : ∃ kl : Int, kl = (KL.length : Int) := ⟨_, rfl⟩
  rw [← hkl] at hsub ln ⊢
  have HLN := Lib.hid ln
  have HSUB := Lib.hid hsub
  clear hsub
  rw [hW] at q4
  clear hdr hK0 hiv cW hW hb4 hb5 hO h hg zW ln ls hnl hkl
  go_enter Try.func41, Try.ntmps41
  go_wp2_with fail
  rw [← HW.out]
  refine LC.out.mono ?_
  rintro e wx ⟨rfl, rfl⟩
  have q4' := Q4.out
  go_wp2_with fail
  refine WC.out.mono ?_
  rintro e wx ⟨rfl, rfl⟩
  obtain ⟨R1, vr, vm, vl, hA⟩ := HO.out
  have hAd := hA.kept ((Chg.refl (fun _ => False) W).drew) (fun _ _ h => h)
  obtain ⟨-, -, qa, fa⟩ := hAd.mark 1 (by omega)
  replace qa : W.drew.cell? ⟨R, 2, none⟩ = some vm := qa
  obtain ⟨ho, -⟩ := hAd.own 1 (by omega)
  replace ho : OAgs W.drew vm (s.agg 1) := ho
  have CL := Lib.hid (clone_ags W.drew vm (s.agg 1) (Owns.reads ho) (by omega))
  obtain ⟨oa, oc, hov⟩ := Owns.form ho
  have HOV := Lib.hid hov
  have QA := Lib.hid qa
  have HAD := Lib.hid hAd
  have iok : Hid (∀ a ∈ s.agg 1, 0 ≤ a.tk ∧ a.tk ≤ 4611686018427387904) := fun a ha => by
    have h1 := hAd.inv.mkOk 1 (by omega)
    have := h1.1 a ha
    omega
  clear qa fa ho hAd hA hov q4'
  go_wp2_with fail
  refine wpZ.begin 14 (fun k => W.heap.size ≤ k) 15 (by kernel_rfl) rfl ?_
  refine wpZ.take 0 rfl (by kernel_rfl) (fun _ _ _ h => h) rfl (fun w' hw' => by go_simp <;> with_reducible rfl) ?_
  simp only [Act.put, List.setIfInBounds_toArray, List.set_cons_zero, List.set_cons_succ]
  refine wpZ.ld 1 rfl (by kernel_rfl) (fun _ _ _ _ h => h) rfl _ _ rfl (by kernel_rfl) ⟨w.heap.size, 0, none⟩ rfl _ (Q4.out) (fun h => by have := ZW.out; simp only at h; omega) ?_
  simp only [Act.put, List.setIfInBounds_toArray, List.set_cons_zero, List.set_cons_succ]
  refine wpZ.take 2 rfl (by kernel_rfl) (fun _ _ _ h => h) rfl (fun w' hw' => by go_simp <;> with_reducible rfl) ?_
  simp only [Act.put, List.setIfInBounds_toArray, List.set_cons_zero, List.set_cons_succ]
  refine wpZ.ld 3 rfl (by kernel_rfl) (fun _ _ _ _ h => h) rfl _ _ rfl (by kernel_rfl) ⟨w.heap.size, 0, none⟩ rfl _ (Q4.out) (fun h => by have := ZW.out; simp only at h; omega) ?_
  simp only [Act.put, List.setIfInBounds_toArray, List.set_cons_zero, List.set_cons_succ]
  refine wpZ.take 4 rfl (by kernel_rfl) (fun _ _ _ h => h) rfl (fun w' hw' => by go_simp <;> with_reducible rfl) ?_
  simp only [Act.put, List.setIfInBounds_toArray, List.set_cons_zero, List.set_cons_succ]
  refine wpZ.take 5 rfl (by kernel_rfl) (fun _ _ _ h => h) rfl (fun w' hw' => by go_simp <;> with_reducible rfl) ?_
  simp only [Act.put, List.setIfInBounds_toArray, List.set_cons_zero, List.set_cons_succ]
  refine wpZ.take 6 rfl (by kernel_rfl) (fun _ _ _ h => h) rfl (fun w' hw' => by go_simp <;> with_reducible rfl) ?_
  simp only [Act.put, List.setIfInBounds_toArray, List.set_cons_zero, List.set_cons_succ]
  refine wpZ.ld 7 rfl (by kernel_rfl) (fun _ _ _ _ h => h) rfl _ _ rfl (by kernel_rfl) ⟨R, 2, none⟩ rfl _ (QA.out) (fun h => by have := HAD.out.lt; have h1 : W.heap.size ≤ R := h; have h2 : R < W.heap.size := this; omega) ?_
  simp only [Act.put, List.setIfInBounds_toArray, List.set_cons_zero, List.set_cons_succ]
  refine wpZ.take (v := .func (.func 71) #[] #[.pointer (some ⟨w.heap.size + 1, 0, none⟩), .pointer (some ⟨w.heap.size, 0, none⟩)]) 9 rfl (by kernel_rfl) (fun _ _ _ h => h) rfl (fun w' hw' => by go_simp <;> with_reducible rfl) ?_
  simp only [Act.put, List.setIfInBounds_toArray, List.set_cons_zero, List.set_cons_succ]
  refine wpZ.take 11 rfl (by kernel_rfl) (fun _ _ _ h => h) rfl (fun w' hw' => by go_simp <;> with_reducible rfl) ?_
  simp only [Act.put, List.setIfInBounds_toArray, List.set_cons_zero, List.set_cons_succ]
  refine wpZ.take 12 rfl (by kernel_rfl) (fun _ _ _ h => h) rfl (fun w' hw' => by go_simp <;> with_reducible rfl) ?_
  simp only [Act.put, List.setIfInBounds_toArray, List.set_cons_zero, List.set_cons_succ]
  refine wpZ.call 8 rfl (by kernel_rfl) rfl (fun K hK => ?_)
  go_wp2_with fail
  refine CL.out.mono ?_
  rintro e w2 ⟨v2, rfl, o2, f2, c2⟩
  have DF := Lib.hid (delf_ags W.drew w2 v2 (s.agg 1) o2 (by omega) iok.out f2 _ _ _ c2 AF.out)
  obtain ⟨va2, vc2, hv2⟩ := Owns.form o2
  have C2 := Lib.hid c2
  subst hv2
  refine hK _ _ (c2.mono (fun _ _ h => h.elim)) ?_
  clear hK o2 f2 c2
  try (simp only [Act.put, List.setIfInBounds_toArray, List.set_cons_zero, List.set_cons_succ])
  refine wpZ.call 10 rfl (by kernel_rfl) rfl (fun K hK => ?_)
  go_wp2_with fail
  refine DF.out.mono ?_
  rintro e w3 ⟨v3, rfl, o3, f3, c3, z3⟩
  rw [← HK0.out] at o3
  obtain ⟨va3, vc3, hv3⟩ := Owns.form o3
  obtain ⟨k1, k2, k3, k4⟩ := HAD.out.seta 1 (by omega) (w7 := w3) (v' := v3) (l := KL) o3 (c3.mono (fun _ _ h => h.elim)) (fun k hk => .inr (f3 k hk)) HIV.out
  replace k3 : w3.cell? ⟨R, 2, none⟩ = some vm := k3
  replace k4 : w3.frozen? ⟨R, 2, none⟩ = false := k4
  have K3 : Hid (w3.cell? ⟨R, 2, none⟩ = some (.slice oa (s.agg 1).length oc)) := by show _ = _; rw [← HOV.out]; exact k3
  have K4 := Lib.hid k4
  have C03 : Hid (Chg (fun _ => False) W.drew w3) := c3
  have RLT : Hid (R < w.heap.size) := HAD.out.fR.2
  subst hv3
  obtain ⟨w4, hw4⟩ : ∃ w4, w4 = w3.setCell ⟨R, 2, none⟩ (.slice va3 KL.length vc3) := ⟨_, rfl⟩
  have K1 : Hid (StIs w4 (ext (fun k => F k ∧ k < w.heap.size) W.drew w4) R (s.setA 1 KL)) := by show StIs _ _ _ _; rw [hw4]; exact k1
  have K2 : Hid (Chg (fun k => F k ∧ k < w.heap.size) W.drew w4) := by show Chg _ _ _; rw [hw4]; exact k2
  refine hK _ _ (chg_from (w0 := W.drew) C2.out c3 z3) ?_
  clear hK o3 f3 c3 z3 k1 k2 k3 k4
  try (simp only [Act.put, List.setIfInBounds_toArray, List.set_cons_zero, List.set_cons_succ])
  refine wpZ.take 13 rfl (by kernel_rfl) (fun _ _ _ h => h) rfl (fun w' hw' => by go_simp <;> with_reducible rfl) ?_
  simp only [Act.put, List.setIfInBounds_toArray, List.set_cons_zero, List.set_cons_succ]
  refine wpZ.last1 rfl (by kernel_rfl) (by kernel_rfl) rfl _ _ _ rfl (by kernel_rfl) (⟨R, 2, none⟩) rfl (.slice va3 KL.length vc3) rfl (.slice oa (s.agg 1).length oc) (K3.out) (K4.out) rfl ?_
  simp only [Act.put, List.setIfInBounds_toArray, List.set_cons_zero, List.set_cons_succ]
  have z4 : Hid (w4.cell? ⟨w.heap.size, 0, none⟩ = some (.int .i64 1)) := by
    show _ = _
    rw [hw4]
    have h1 := C03.out.heap HB4.out (fun h => h)
    have h2 := (Chg.setCell (S := fun k => k = R) (Chg.refl _ w3) (p := ⟨R, 2, none⟩) (fun _ => rfl) (.slice va3 KL.length vc3)).heap h1 (fun e => by have := RLT.out; omega)
    rw [cell_of_heap h2]; rfl
  have q4'' := z4.out
  have LC2 := stlen_c w4 _ R (s.setA 1 KL) 1 (by omega) K1.out
  rw [HLN.out] at LC2
  have LC2 := Lib.hid LC2
  have HW4 := Lib.hid hw4
  rw [hw4] at q4''
  clear hw4
  go_wp2_with fail
  rw [← HW4.out]
  refine LC2.out.mono ?_
  rintro e wx ⟨rfl, rfl⟩
  clear q4''
  go_wp2_with fail
  go_ret
  have z1 := CW.out.size
  have z2 := K2.out.size
  refine ⟨congrArg (fun z => Ending.returned (Value.int .i64 z)) HSUB.out, K1.out.mono (fun k hk => ?_), ?_⟩
  · rcases hk with hk | hk
    · exact .inl hk.1
    · exact .inr ⟨by have h1 : W.heap.size ≤ k := hk.1; omega, hk.2⟩
  · exact (CW.out.drew.mono (fun _ _ h => h.elim)).trans (K2.out.mono (fun k _ hk => hk.1))
set_option maxRecDepth 100000 in
set_option maxHeartbeats 4000000 in
theorem dropA2_c (w : World) (F : Nat → Prop) (R : Nat) (s : St) (b1 b2 b3 b4 b5 b6 : Nat) (gn : Int → Int → Bool) (h : StIs w F R s) (hg : GoneS w (fun k => F k ∧ k < w.heap.size) (six b1 b2 b3 b4 b5 b6) gn) :
    Calls Try.prog 41 #[.pointer (some ⟨R, 0, none⟩), .int .i64 2, .func (.func 42) #[] (six b1 b2 b3 b4 b5 b6)] w fun e w' => e = .returned (.int .i64 (s.len 2 - (s.dropped 2 gn).len 2)) ∧ StIs w' (ext F w w') R (s.dropped 2 gn) ∧ Chg F w w' := by
  have hdr : s.dropped 2 gn = s.setA 2 (keepF (fun a => gn (wst 2 a.tk) (wst 2 a.tk + wid 2)) (s.agg 2)) := by
    show s.setA 2 (keepF _ _) = _
    congr 1
    refine keep_cong (fun a ha => ?_)
    rw [wst_al ((h.inv.mkOk 2 (by omega)).1 a ha).2.2]
  rw [hdr]
  obtain ⟨KL, hK0⟩ : ∃ KL, KL = keepF (fun a => gn (wst 2 a.tk) (wst 2 a.tk + wid 2)) (s.agg 2) := ⟨_, rfl⟩
  have hiv := dropped_ok h.inv 2 (by omega) (fun a => gn (wst 2 a.tk) (wst 2 a.tk + wid 2))
  rw [← hK0] at hiv ⊢
  have hKl : KL.length ≤ 256 := by rw [hK0]; exact Nat.le_trans (List.length_filter_le _ _) (h.inv.mkOk 2 (by omega)).2.1
  obtain ⟨W, hW⟩ : ∃ W, W = (w.alloc (.cells #[.int .i64 2] 3)).alloc (.cells #[.func (.func 42) #[] (six b1 b2 b3 b4 b5 b6)] 27) := ⟨_, rfl⟩
  have cW : Chg (fun _ => False) w W := by rw [hW]; exact ((Chg.refl _ w).alloc _).alloc _
  have zW : W.heap.size = w.heap.size + 2 := by rw [hW]; simp
  have hb4 : W.heap[w.heap.size]? = some (.cells #[.int .i64 2] 3 (0, 0)) := by rw [hW]; exact Chg.heap ((Chg.refl (fun _ => False) _).alloc _) (heap_at_new w _ _ rfl) (fun h => h)
  have hb5 : W.heap[w.heap.size + 1]? = some (.cells #[.func (.func 42) #[] (six b1 b2 b3 b4 b5 b6)] 27 (0, 0)) := by rw [hW]; exact heap_at_new _ _ _ (by simp)
  have hO := h.old.same cW
  have LC := Lib.hid (stlen_c W _ R s 2 (by omega) hO)
  have WC := Lib.hid (wide_c W 2 (by omega))
  have q4 : W.cell? ⟨w.heap.size, 0, none⟩ = some (.int .i64 2) := by rw [cell_of_heap hb4]; rfl
  have Q4 := Lib.hid q4
  have Q5 : Hid (W.cell? ⟨w.heap.size + 1, 0, none⟩ = some (.func (.func 42) #[] (six b1 b2 b3 b4 b5 b6))) := by show _ = _; rw [cell_of_heap hb5]; rfl
  have HB4 := Lib.hid hb4
  have HO := Lib.hid hO
  have HK0 := Lib.hid hK0
  have HIV := Lib.hid hiv
  have CW := Lib.hid cW
  have HW := Lib.hid hW
  have ZW := Lib.hid zW
  have AF := Lib.hid (drop1_c W.drew (w.heap.size + 1) w.heap.size b1 b2 b3 b4 b5 b6 2 (by omega) gn Q5.out Q4.out (fun W2 x y c2 => hg.none W2 x y ((cW.trans (Chg.refl (fun _ => False) W).drew).trans c2)))
  have ln : (s.setA 2 KL).len 2 = (KL.length : Int) := rfl
  have ls : s.len 2 = ((s.agg 2).length : Int) := rfl
  have hlsl := (h.inv.mkOk 2 (by omega)).2.1
  obtain ⟨nl, hnl⟩ : ∃ nl, nl = s.len 2 := ⟨_, rfl⟩
  rw [← hnl] at LC ls ⊢
  rw [ln]
  have hsub : wrap64 (nl - (KL.length : Int)) = nl - KL.length := by unfold wrap64; omega
  obtain ⟨kl, hkl⟩ : ∃ kl : Int, kl = (KL.length : Int) := ⟨_, rfl⟩
  rw [← hkl] at hsub ln ⊢
  have HLN := Lib.hid ln
  have HSUB := Lib.hid hsub
  clear hsub
  rw [hW] at q4
  clear hdr hK0 hiv cW hW hb4 hb5 hO h hg zW ln ls hnl hkl
  go_enter Try.func41, Try.ntmps41
  go_wp2_with fail
  rw [← HW.out]
  refine LC.out.mono ?_
  rintro e wx ⟨rfl, rfl⟩
  have q4' := Q4.out
  go_wp2_with fail
  refine WC.out.mono ?_
  rintro e wx ⟨rfl, rfl⟩
  obtain ⟨R1, vr, vm, vl, hA⟩ := HO.out
  have hAd := hA.kept ((Chg.refl (fun _ => False) W).drew) (fun _ _ h => h)
  obtain ⟨-, -, qa, fa⟩ := hAd.mark 2 (by omega)
  replace qa : W.drew.cell? ⟨R, 3, none⟩ = some vl := qa
  obtain ⟨ho, -⟩ := hAd.own 2 (by omega)
  replace ho : OAgs W.drew vl (s.agg 2) := ho
  have CL := Lib.hid (clone_ags W.drew vl (s.agg 2) (Owns.reads ho) (by omega))
  obtain ⟨oa, oc, hov⟩ := Owns.form ho
  have HOV := Lib.hid hov
  have QA := Lib.hid qa
  have HAD := Lib.hid hAd
  have iok : Hid (∀ a ∈ s.agg 2, 0 ≤ a.tk ∧ a.tk ≤ 4611686018427387904) := fun a ha => by
    have h1 := hAd.inv.mkOk 2 (by omega)
    have := h1.1 a ha
    omega
  clear qa fa ho hAd hA hov q4'
  go_wp2_with fail
  refine wpZ.begin 14 (fun k => W.heap.size ≤ k) 15 (by kernel_rfl) rfl ?_
  refine wpZ.take 0 rfl (by kernel_rfl) (fun _ _ _ h => h) rfl (fun w' hw' => by go_simp <;> with_reducible rfl) ?_
  simp only [Act.put, List.setIfInBounds_toArray, List.set_cons_zero, List.set_cons_succ]
  refine wpZ.ld 1 rfl (by kernel_rfl) (fun _ _ _ _ h => h) rfl _ _ rfl (by kernel_rfl) ⟨w.heap.size, 0, none⟩ rfl _ (Q4.out) (fun h => by have := ZW.out; simp only at h; omega) ?_
  simp only [Act.put, List.setIfInBounds_toArray, List.set_cons_zero, List.set_cons_succ]
  refine wpZ.take 2 rfl (by kernel_rfl) (fun _ _ _ h => h) rfl (fun w' hw' => by go_simp <;> with_reducible rfl) ?_
  simp only [Act.put, List.setIfInBounds_toArray, List.set_cons_zero, List.set_cons_succ]
  refine wpZ.ld 3 rfl (by kernel_rfl) (fun _ _ _ _ h => h) rfl _ _ rfl (by kernel_rfl) ⟨w.heap.size, 0, none⟩ rfl _ (Q4.out) (fun h => by have := ZW.out; simp only at h; omega) ?_
  simp only [Act.put, List.setIfInBounds_toArray, List.set_cons_zero, List.set_cons_succ]
  refine wpZ.take 4 rfl (by kernel_rfl) (fun _ _ _ h => h) rfl (fun w' hw' => by go_simp <;> with_reducible rfl) ?_
  simp only [Act.put, List.setIfInBounds_toArray, List.set_cons_zero, List.set_cons_succ]
  refine wpZ.take 5 rfl (by kernel_rfl) (fun _ _ _ h => h) rfl (fun w' hw' => by go_simp <;> with_reducible rfl) ?_
  simp only [Act.put, List.setIfInBounds_toArray, List.set_cons_zero, List.set_cons_succ]
  refine wpZ.take 6 rfl (by kernel_rfl) (fun _ _ _ h => h) rfl (fun w' hw' => by go_simp <;> with_reducible rfl) ?_
  simp only [Act.put, List.setIfInBounds_toArray, List.set_cons_zero, List.set_cons_succ]
  refine wpZ.ld 7 rfl (by kernel_rfl) (fun _ _ _ _ h => h) rfl _ _ rfl (by kernel_rfl) ⟨R, 3, none⟩ rfl _ (QA.out) (fun h => by have := HAD.out.lt; have h1 : W.heap.size ≤ R := h; have h2 : R < W.heap.size := this; omega) ?_
  simp only [Act.put, List.setIfInBounds_toArray, List.set_cons_zero, List.set_cons_succ]
  refine wpZ.take (v := .func (.func 71) #[] #[.pointer (some ⟨w.heap.size + 1, 0, none⟩), .pointer (some ⟨w.heap.size, 0, none⟩)]) 9 rfl (by kernel_rfl) (fun _ _ _ h => h) rfl (fun w' hw' => by go_simp <;> with_reducible rfl) ?_
  simp only [Act.put, List.setIfInBounds_toArray, List.set_cons_zero, List.set_cons_succ]
  refine wpZ.take 11 rfl (by kernel_rfl) (fun _ _ _ h => h) rfl (fun w' hw' => by go_simp <;> with_reducible rfl) ?_
  simp only [Act.put, List.setIfInBounds_toArray, List.set_cons_zero, List.set_cons_succ]
  refine wpZ.take 12 rfl (by kernel_rfl) (fun _ _ _ h => h) rfl (fun w' hw' => by go_simp <;> with_reducible rfl) ?_
  simp only [Act.put, List.setIfInBounds_toArray, List.set_cons_zero, List.set_cons_succ]
  refine wpZ.call 8 rfl (by kernel_rfl) rfl (fun K hK => ?_)
  go_wp2_with fail
  refine CL.out.mono ?_
  rintro e w2 ⟨v2, rfl, o2, f2, c2⟩
  have DF := Lib.hid (delf_ags W.drew w2 v2 (s.agg 2) o2 (by omega) iok.out f2 _ _ _ c2 AF.out)
  obtain ⟨va2, vc2, hv2⟩ := Owns.form o2
  have C2 := Lib.hid c2
  subst hv2
  refine hK _ _ (c2.mono (fun _ _ h => h.elim)) ?_
  clear hK o2 f2 c2
  try (simp only [Act.put, List.setIfInBounds_toArray, List.set_cons_zero, List.set_cons_succ])
  refine wpZ.call 10 rfl (by kernel_rfl) rfl (fun K hK => ?_)
  go_wp2_with fail
  refine DF.out.mono ?_
  rintro e w3 ⟨v3, rfl, o3, f3, c3, z3⟩
  rw [← HK0.out] at o3
  obtain ⟨va3, vc3, hv3⟩ := Owns.form o3
  obtain ⟨k1, k2, k3, k4⟩ := HAD.out.seta 2 (by omega) (w7 := w3) (v' := v3) (l := KL) o3 (c3.mono (fun _ _ h => h.elim)) (fun k hk => .inr (f3 k hk)) HIV.out
  replace k3 : w3.cell? ⟨R, 3, none⟩ = some vl := k3
  replace k4 : w3.frozen? ⟨R, 3, none⟩ = false := k4
  have K3 : Hid (w3.cell? ⟨R, 3, none⟩ = some (.slice oa (s.agg 2).length oc)) := by show _ = _; rw [← HOV.out]; exact k3
  have K4 := Lib.hid k4
  have C03 : Hid (Chg (fun _ => False) W.drew w3) := c3
  have RLT : Hid (R < w.heap.size) := HAD.out.fR.2
  subst hv3
  obtain ⟨w4, hw4⟩ : ∃ w4, w4 = w3.setCell ⟨R, 3, none⟩ (.slice va3 KL.length vc3) := ⟨_, rfl⟩
  have K1 : Hid (StIs w4 (ext (fun k => F k ∧ k < w.heap.size) W.drew w4) R (s.setA 2 KL)) := by show StIs _ _ _ _; rw [hw4]; exact k1
  have K2 : Hid (Chg (fun k => F k ∧ k < w.heap.size) W.drew w4) := by show Chg _ _ _; rw [hw4]; exact k2
  refine hK _ _ (chg_from (w0 := W.drew) C2.out c3 z3) ?_
  clear hK o3 f3 c3 z3 k1 k2 k3 k4
  try (simp only [Act.put, List.setIfInBounds_toArray, List.set_cons_zero, List.set_cons_succ])
  refine wpZ.take 13 rfl (by kernel_rfl) (fun _ _ _ h => h) rfl (fun w' hw' => by go_simp <;> with_reducible rfl) ?_
  simp only [Act.put, List.setIfInBounds_toArray, List.set_cons_zero, List.set_cons_succ]
  refine wpZ.last1 rfl (by kernel_rfl) (by kernel_rfl) rfl _ _ _ rfl (by kernel_rfl) (⟨R, 3, none⟩) rfl (.slice va3 KL.length vc3) rfl (.slice oa (s.agg 2).length oc) (K3.out) (K4.out) rfl ?_
  simp only [Act.put, List.setIfInBounds_toArray, List.set_cons_zero, List.set_cons_succ]
  have z4 : Hid (w4.cell? ⟨w.heap.size, 0, none⟩ = some (.int .i64 2)) := by
    show _ = _
    rw [hw4]
    have h1 := C03.out.heap HB4.out (fun h => h)
    have h2 := (Chg.setCell (S := fun k => k = R) (Chg.refl _ w3) (p := ⟨R, 3, none⟩) (fun _ => rfl) (.slice va3 KL.length vc3)).heap h1 (fun e => by have := RLT.out; omega)
    rw [cell_of_heap h2]; rfl
  have q4'' := z4.out
  have LC2 := stlen_c w4 _ R (s.setA 2 KL) 2 (by omega) K1.out
  rw [HLN.out] at LC2
  have LC2 := Lib.hid LC2
  have HW4 := Lib.hid hw4
  rw [hw4] at q4''
  clear hw4
  go_wp2_with fail
  rw [← HW4.out]
  refine LC2.out.mono ?_
  rintro e wx ⟨rfl, rfl⟩
  clear q4''
  go_wp2_with fail
  go_ret
  have z1 := CW.out.size
  have z2 := K2.out.size
  refine ⟨congrArg (fun z => Ending.returned (Value.int .i64 z)) HSUB.out, K1.out.mono (fun k hk => ?_), ?_⟩
  · rcases hk with hk | hk
    · exact .inl hk.1
    · exact .inr ⟨by have h1 : W.heap.size ≤ k := hk.1; omega, hk.2⟩
  · exact (CW.out.drew.mono (fun _ _ h => h.elim)).trans (K2.out.mono (fun k _ hk => hk.1))
end Go.Proofs.Ytmnnahkaenikkaa

/- Stock.Drop of points. -/
namespace Go.Proofs.Ytmnnahkaenikkaa
open Go.RowKit Go.Cat
def St.atK (s : St) (gn : Int → Int → Bool) (k : Nat) : St := { s with raw := rawK gn s.raw k }
theorem rawK_all (gn : Int → Int → Bool) (L : List Pt) : rawK gn L L.length = L.filter fun p => !gn p.tk (p.tk + 1) := by unfold rawK; rw [List.take_length, List.drop_length, List.append_nil]
theorem rawK_zero (gn : Int → Int → Bool) (L : List Pt) : rawK gn L 0 = L := by simp [rawK]
theorem rawK_mem {gn : Int → Int → Bool} {L : List Pt} {k : Nat} {p : Pt} (h : p ∈ rawK gn L k) : p ∈ L := by
  rcases List.mem_append.1 h with h | h
  · exact List.mem_of_mem_take (List.mem_filter.1 h).1
  · exact List.mem_of_mem_drop h
theorem rawK_len (gn : Int → Int → Bool) (L : List Pt) : (L.filter fun p => !gn p.tk (p.tk + 1)).length ≤ L.length := List.length_filter_le _ _
set_option maxRecDepth 100000 in
set_option maxHeartbeats 4000000 in
theorem drop0_c (w : World) (F : Nat → Prop) (R : Nat) (s : St) (b1 b2 b3 b4 b5 b6 : Nat) (gn : Int → Int → Bool) (h : StIs w F R s) (hg : GoneS w (fun k => F k ∧ k < w.heap.size) (six b1 b2 b3 b4 b5 b6) gn) :
    Calls Try.prog 41 #[.pointer (some ⟨R, 0, none⟩), .int .i64 0, .func (.func 42) #[] (six b1 b2 b3 b4 b5 b6)] w fun e w' => e = .returned (.int .i64 (s.len 0 - (s.dropped 0 gn).len 0)) ∧ StIs w' (ext F w w') R (s.dropped 0 gn) ∧ Chg F w w' := by
  have hI := h.inv
  obtain ⟨F0, hF0⟩ : ∃ F0 : Nat → Prop, F0 = fun k => F k ∧ k < w.heap.size := ⟨_, rfl⟩
  have hF0' : Hid (∀ k, F0 k ↔ F k ∧ k < w.heap.size) := fun k => by rw [hF0]
  obtain ⟨L, hL⟩ : ∃ L, L = s.raw := ⟨_, rfl⟩
  have HDR : Hid (s.dropped 0 gn = { s with raw := L.filter fun p => !gn p.tk (p.tk + 1) }) := by rw [hL]; rfl
  have hall := inR_all hI
  obtain ⟨n, hn⟩ : ∃ n, n = L.length := ⟨_, rfl⟩
  have hsr : Sorted L ∧ L.length ≤ 256 := by
    obtain ⟨_, _, _, _, h⟩ := h
    rw [hL]
    exact ⟨h.ser.srt, h.ser.few⟩
  have ls : s.len 0 = (n : Int) := by rw [hn, hL]; rfl
  obtain ⟨m, hm⟩ : ∃ m, m = (L.filter fun p => !gn p.tk (p.tk + 1)).length := ⟨_, rfl⟩
  have hml : m ≤ n := by rw [hm, hn]; exact rawK_len gn L
  have ld : (s.dropped 0 gn).len 0 = (m : Int) := by rw [HDR.out, hm]; rfl
  have hfew : n ≤ 256 := by rw [hn]; exact hsr.2
  obtain ⟨W, hW⟩ : ∃ W, W = (w.alloc (.cells #[.int .i64 0] 3)).alloc (.cells #[.func (.func 42) #[] (six b1 b2 b3 b4 b5 b6)] 27) := ⟨_, rfl⟩
  have cW : Chg (fun _ => False) w W := by rw [hW]; exact ((Chg.refl _ w).alloc _).alloc _
  have zW : W.heap.size = w.heap.size + 2 := by rw [hW]; simp
  have HB4 : Hid (W.heap[w.heap.size]? = some (.cells #[.int .i64 0] 3 (0, 0))) := by show _ = _; rw [hW]; exact Chg.heap ((Chg.refl (fun _ => False) _).alloc _) (heap_at_new w _ _ rfl) (fun h => h)
  have HB5 : Hid (W.heap[w.heap.size + 1]? = some (.cells #[.func (.func 42) #[] (six b1 b2 b3 b4 b5 b6)] 27 (0, 0))) := by show _ = _; rw [hW]; exact heap_at_new _ _ _ (by simp)
  have hO : StIs W F0 R s := by rw [hF0]; exact h.old.same cW
  have LC := stlen_c W _ R s 0 (.inl rfl) hO
  obtain ⟨R1, vr, vm, vl, hA⟩ := id hO
  have GC := get_c W R1 vr s.raw 0 1099511627777 hA.ser
  rw [hall, ← hL] at GC
  have GC := Lib.hid GC
  obtain ⟨q0, -⟩ := hA.cells
  rw [ls] at LC
  have LC := Lib.hid LC
  have GN : Hid (∀ W2 x y, Chg F0 w W2 → Calls Try.prog 42 #[.agg #[.int .i64 x, .int .i64 y], .pointer (some ⟨b1, 0, none⟩), .pointer (some ⟨b2, 0, none⟩), .pointer (some ⟨b3, 0, none⟩), .pointer (some ⟨b4, 0, none⟩), .pointer (some ⟨b5, 0, none⟩), .pointer (some ⟨b6, 0, none⟩)] W2 fun e w' => e = .returned (.bool (gn x y)) ∧ Chg (fun _ => False) W2 w') := fun W2 x y c2 => hg W2 x y (by rw [← hF0]; exact c2)
  have q4 : W.cell? ⟨w.heap.size, 0, none⟩ = some (.int .i64 0) := by rw [cell_of_heap HB4.out]; rfl
  have hS0 : Hid (s.atK gn 0 = s) := by show _ = _; unfold St.atK; rw [rawK_zero]
  have hSn : Hid (s.atK gn n = s.dropped 0 gn) := by show _ = _; rw [HDR.out, hn, hL]; unfold St.atK; rw [rawK_all]
  have TK : Hid (∀ (k : Nat) (p : Pt), L[k]? = some p → 0 ≤ p.tk ∧ p.tk ≤ 4611686018427387904) := fun k p hp => by
    have := hI.tks p (by rw [← hL]; exact List.mem_of_getElem? hp)
    omega
  have INV : Hid (∀ k, ∀ p ∈ rawK gn L k, 0 ≤ p.tk ∧ p.tk ≤ 1099511627776) := fun k p hp => hI.tks p (by rw [← hL]; exact rawK_mem hp)
  have STEP : Hid (∀ (k : Nat) (p : Pt), L[k]? = some p → (gn p.tk (p.tk + 1) = false → s.atK gn (k + 1) = s.atK gn k) ∧ (gn p.tk (p.tk + 1) = true → s.atK gn (k + 1) = { s.atK gn k with raw := outR (s.atK gn k).raw p.tk (p.tk + 1) })) := fun k p hp => by
    rw [hL] at hp
    refine ⟨fun hg => ?_, fun hg => ?_⟩
    · unfold St.atK; rw [rawK_keep hp hg]
    · unfold St.atK
      rw [rawK_cut (by rw [← hL]; exact hsr.1) hp hg]
  have OC := Lib.hid (fun W x h0 h1 => of_c W 0 x (by omega) h0 h1)
  have HN := Lib.hid hn
  have HO := Lib.hid hO
  have CW := Lib.hid cW
  have HW := Lib.hid hW
  have ZW := Lib.hid zW
  have HSUB : Hid (wrap64 ((n : Int) - (m : Int)) = (n : Int) - m) := by show _ = _; unfold wrap64; omega
  have HLD := Lib.hid ld
  have q5 : W.cell? ⟨w.heap.size + 1, 0, none⟩ = some (.func (.func 42) #[] (six b1 b2 b3 b4 b5 b6)) := by rw [cell_of_heap HB5.out]; rfl
  rw [ls, ld]
  rw [hW] at q4
  have HF0 := Lib.hid hF0
  have HL := Lib.hid hL
  unfold six at HB5 q5 HW ⊢
  clear hI hall hsr hm cW zW hO hA hg h ls ld hn hL hF0 q5
  unfold six at hW q4
  go_enter Try.func41, Try.ntmps41
  go_wp2_with fail
  rw [← hW]
  refine LC.out.mono ?_
  rintro e wx ⟨rfl, rfl⟩
  have q4' : W.cell? ⟨w.heap.size, 0, none⟩ = some (.int .i64 0) := by rw [cell_of_heap HB4.out]; rfl
  clear q4 hW
  go_wp2_with fail
  refine GC.out.mono ?_
  rintro e w2 ⟨v2, rfl, o2, f2, c2⟩
  obtain ⟨va2, vc2, hv2⟩ := o2.form
  rw [← HN.out] at hv2
  have O2 : Hid (Pts w2 (.slice va2 n vc2) L) := by rw [← hv2]; exact o2.reads
  have F2 : Hid (∀ k, (Value.slice va2 n vc2).ownBlock = some k → W.heap.size ≤ k) := by rw [← hv2]; exact f2
  have C2 := Lib.hid c2
  subst hv2
  clear o2 f2 c2 q0 q4'
  go_wp2_with fail
  go_loopw [26] (fun ci wr => ∃ k : Nat, k ≤ n ∧ ci = .int .i64 k ∧ Hid (StIs wr (ext F0 w2 wr) R (s.atK gn k)) ∧ Hid (Chg F0 w2 wr)) (fun ci _ => n - (intOf ci).toNat)
  case atStart => exact ⟨0, by omega, rfl, by rw [hS0.out]; exact (HO.out.same C2.out).ext, Chg.refl _ _⟩
  case round =>
    obtain ⟨k, hk, rfl, hS, hC⟩ := hrel
    have hWr : Hid (Chg F0 w wr) := ((CW.out.trans C2.out).mono (fun _ _ h => h.elim)).trans' hC.out (fun _ _ h => h)
    have hB5r := (C2.out.heap HB5.out (fun h => h))
    have hB5' := hC.out.heap hB5r (fun h => by have := ((hF0'.out _).1 h).2; omega)
    have hB4' := hC.out.heap (C2.out.heap HB4.out (fun h => h)) (fun h => by have := ((hF0'.out _).1 h).2; omega)
    have HB5r := Lib.hid hB5'
    have HB4r := Lib.hid hB4'
    clear hB5r hB5' hB4'
    by_cases hlt : k < n
    · obtain ⟨p, hp⟩ := at_lt (show k < L.length by rw [← HN.out]; exact hlt)
      obtain ⟨p0, p1⟩ := TK.out k p hp
      obtain ⟨st0, st1⟩ := STEP.out k p hp
      have hPT : Pts wr (.slice va2 n vc2) L := Reads.kept O2.out hC.out (fun q hq h => by have := F2.out q hq; have := ((hF0'.out _).1 h).2; have := ZW.out; omega)
      obtain ⟨g, o, rfl, h1, h2, h3⟩ := reads_some (n := n) (by have := hPT; unfold Pts at this; rw [← HN.out] at this; exact this) (by omega)
      have hld := load_pt wr h3 hp
      obtain ⟨Wa, hWa⟩ : ∃ W, W = wr.alloc (.cells #[.int .i64 p.tk, .int .i64 p.val] 32) := ⟨_, rfl⟩
      have ca : Chg (fun _ => False) wr Wa := by rw [hWa]; exact (Chg.refl _ wr).alloc _
      have OCp := OC.out Wa p.tk p0 p1
      rw [wst0, show wid 0 = 1 from rfl] at OCp
      have OCp := Lib.hid OCp
      have HWa := Lib.hid hWa
      have CA := Lib.hid ca
      clear hWa ca h1 h2 h3 hPT p0 p1
      go_wp2_with (first | refine wpList_load rfl 32 _ rfl _ _ rfl hld ?_)
      rw [← HWa.out]
      refine OCp.out.mono ?_
      rintro e w3 ⟨rfl, c3⟩
      have HZ3 : Hid (Wa.heap.size ≤ w3.heap.size) := c3.size
      obtain ⟨Wc, hWc⟩ : ∃ W, W = w3.alloc (.cells #[.int .i64 p.tk, .int .i64 (p.tk + 1)] 24) := ⟨_, rfl⟩
      have cc : Chg (fun _ => False) wr Wc := by rw [hWc]; exact (CA.out.trans c3).alloc _
      have hRc : Wc.heap[w3.heap.size]? = some (.cells #[.int .i64 p.tk, .int .i64 (p.tk + 1)] 24 (0, 0)) := by rw [hWc]; exact heap_at_new _ _ _ rfl
      have q5 : Wc.cell? ⟨w.heap.size + 1, 0, none⟩ = some (.func (.func 42) #[] #[.pointer (some ⟨b1, 0, none⟩), .pointer (some ⟨b2, 0, none⟩), .pointer (some ⟨b3, 0, none⟩), .pointer (some ⟨b4, 0, none⟩), .pointer (some ⟨b5, 0, none⟩), .pointer (some ⟨b6, 0, none⟩)]) := by rw [cell_of_heap (cc.heap HB5r.out (fun h => h))]; rfl
      have GCp := GN.out Wc p.tk (p.tk + 1) (hWr.out.trans (cc.mono (fun _ _ h => h.elim)))
      have HRC := Lib.hid hRc
      have CC := Lib.hid cc
      have HWc := Lib.hid hWc
      rw [hWc] at q5
      clear c3 hWc hRc cc hld
      cases hgp : gn p.tk (p.tk + 1) with
      | false =>
        rw [hgp] at GCp
        have GCp := Lib.hid GCp
        have E1 := Lib.hid (st0 hgp)
        clear st0 st1 hgp hp
        go_wp2_with fail
        rw [← HWc.out]
        refine GCp.out.mono ?_
        rintro e w5 ⟨rfl, c5⟩
        have C5 := Lib.hid (CC.out.trans c5)
        clear c5 q5
        go_wp2_with fail
        exact ⟨⟨k + 1, by omega, rfl, by rw [E1.out]; exact (hS.out.same C5.out).mono (fun q hq => ext_mono C5.out.size hq), hC.out.trans (C5.out.mono (fun _ _ h => h.elim))⟩, by simp only [intOf]; omega⟩
      | true =>
        rw [hgp] at GCp
        have GCp := Lib.hid GCp
        have E1 := Lib.hid (st1 hgp)
        clear st0 st1 hgp hp
        go_wp2_with fail
        rw [← HWc.out]
        refine GCp.out.mono ?_
        rintro e w5 ⟨rfl, c5⟩
        obtain ⟨R1', vr', vm', vl', hA5⟩ := hS.out.same ((CC.out.trans c5).trans (Chg.refl _ w5).drew)
        obtain ⟨qr, -⟩ := hA5.cells
        have QR := Lib.hid qr
        have HR5 : Hid (w5.drew.heap[w3.heap.size]? = some (.cells #[.int .i64 p.tk, .int .i64 (p.tk + 1)] 24 (0, 0))) := c5.heap HRC.out (fun h => h)
        have CUT := Lib.hid (cut_c w5.drew R1' vr' (s.atK gn k).raw p.tk (p.tk + 1) hA5.ser)
        have HA5 := Lib.hid hA5
        have C5 := Lib.hid (CC.out.trans c5)
        have NR : Hid (¬ w3.heap.size = R1') := fun e => by
          have h1 := (Array.getElem?_eq_some_iff.1 HR5.out).1
          rcases HA5.out.fR1 with h2 | h2
          · have := ((hF0'.out _).1 h2).2
            have := ZW.out; have := C2.out.size; have := hC.out.size; have := CA.out.size; have := HZ3.out; omega
          · have := HZ3.out; have := CA.out.size; omega
        clear c5 hA5 qr q5
        go_wp2_with fail
        refine wpT.begin (fun k => k = R1') 6 (by kernel_rfl) rfl ?_
        refine wpT.take 0 rfl (by kernel_rfl) (fun _ _ _ h => h) rfl (fun w' hw' => by go_simp <;> with_reducible rfl) ?_
        simp only [Act.put, List.setIfInBounds_toArray, List.set_cons_zero, List.set_cons_succ]
        refine wpT.take 1 rfl (by kernel_rfl) (fun _ _ _ h => h) rfl (fun w' hw' => by go_simp <;> with_reducible rfl) ?_
        simp only [Act.put, List.setIfInBounds_toArray, List.set_cons_zero, List.set_cons_succ]
        refine wpT.take 2 rfl (by kernel_rfl) (fun _ _ _ h => h) rfl (fun w' hw' => by go_simp <;> with_reducible rfl) ?_
        simp only [Act.put, List.setIfInBounds_toArray, List.set_cons_zero, List.set_cons_succ]
        refine wpT.ld 3 rfl (by kernel_rfl) (fun _ _ _ _ h => h) rfl _ _ rfl (by kernel_rfl) ⟨R, 0, none⟩ rfl _ (QR.out) (fun h => HA5.out.d1 h) ?_
        simp only [Act.put, List.setIfInBounds_toArray, List.set_cons_zero, List.set_cons_succ]
        refine wpT.take 4 rfl (by kernel_rfl) (fun _ _ _ h => h) rfl (fun w' hw' => exec_load _ _ _ _ rfl rfl (load_rng (hw'.heap HR5.out (fun h => NR.out h)))) ?_
        simp only [Act.put, List.setIfInBounds_toArray, List.set_cons_zero, List.set_cons_succ]
        refine wpT.call 5 rfl (by kernel_rfl) rfl (fun K hK => ?_)
        go_wp2_with fail
        refine CUT.out.mono ?_
        rintro e w6 ⟨rfl, ho⟩
        obtain ⟨v6, hs6, hv6, c6⟩ := id ho
        obtain ⟨k1, k2⟩ := HA5.out.pts ho (fun q hq => INV.out k q (by have h := (List.mem_filter.1 hq).1; rw [HL.out]; exact h))
        have K1 := Lib.hid k1
        have K2 : Hid (Chg (ext F0 w2 wr) w5.drew w6) := k2
        refine hK _ _ c6 ?_
        clear hK ho hs6 hv6 c6 k1 k2
        try (simp only [Act.put, List.setIfInBounds_toArray, List.set_cons_zero, List.set_cons_succ])
        refine wpT.done (by kernel_rfl) ?_
        have z1 := C5.out.size
        have z2 := K2.out.size
        have z3 := hC.out.size
        have z4 := C2.out.size
        have hext : ∀ q, ext (ext F0 w2 wr) w5.drew w6 q → ext F0 w2 w6 q := fun q hq => by
          rcases hq with hq | hq
          · rcases hq with hq | hq
            · exact .inl hq
            · exact .inr ⟨hq.1, by have h1 : w5.heap.size ≤ w6.heap.size := z2; omega⟩
          · exact .inr ⟨by have h1 : w5.heap.size ≤ q := hq.1; omega, hq.2⟩
        have F1 : Hid (StIs w6 (ext F0 w2 w6) R (s.atK gn (k + 1))) := by show StIs _ _ _ _; rw [E1.out]; exact K1.out.mono hext
        have F2' : Hid (Chg F0 w2 w6) := by
          refine (hC.out.trans (C5.out.drew.mono (fun _ _ h => h.elim))).trans' (K2.out) (fun q hq0 hq => ?_)
          rcases hq with hq | hq
          · exact hq
          · exfalso
            have h1 : w2.heap.size ≤ q := hq.1
            omega
        go_wp2_with fail
        exact ⟨⟨k + 1, by omega, rfl, F1.out, F2'.out⟩, by simp only [intOf]; omega⟩
    · obtain rfl : k = n := by omega
      have q4'' : wr.cell? ⟨w.heap.size, 0, none⟩ = some (.int .i64 0) := by rw [cell_of_heap HB4r.out]; rfl
      have hSd : StIs wr (ext F0 w2 wr) R (s.dropped 0 gn) := by rw [← hSn.out]; exact hS.out
      have LC2 := stlen_c wr _ R _ 0 (.inl rfl) hSd
      rw [HLD.out] at LC2
      have LC2 := Lib.hid LC2
      have HSD := Lib.hid hSd
      clear hSd
      go_wp2_with fail
      refine LC2.out.mono ?_
      rintro e wx ⟨rfl, rfl⟩
      clear q4''
      go_wp2_with fail
      go_ret
      have z1 := CW.out.size
      have z2 := ZW.out
      have z3 := C2.out.size
      refine ⟨by first | rfl | exact congrArg (fun z => Ending.returned (Value.int .i64 z)) HSUB.out, HSD.out.mono (fun q hq => ?_), hWr.out.mono (fun q _ hq => ((hF0'.out q).1 hq).1)⟩
      rcases hq with hq | hq
      · exact .inl ((hF0'.out q).1 hq).1
      · exact .inr ⟨by omega, hq.2⟩
end Go.Proofs.Ytmnnahkaenikkaa

/- Stock.Drop of every tier; expire's test. -/
namespace Go.Proofs.Ytmnnahkaenikkaa
open Go.RowKit Go.Cat
theorem drop_c (w : World) (F : Nat → Prop) (R : Nat) (s : St) (t : Nat) (ht : t = 0 ∨ t = 1 ∨ t = 2) (b1 b2 b3 b4 b5 b6 : Nat) (gn : Int → Int → Bool) (h : StIs w F R s) (hg : GoneS w (fun k => F k ∧ k < w.heap.size) (six b1 b2 b3 b4 b5 b6) gn) :
    Calls Try.prog 41 #[.pointer (some ⟨R, 0, none⟩), .int .i64 t, .func (.func 42) #[] (six b1 b2 b3 b4 b5 b6)] w fun e w' => e = .returned (.int .i64 (s.len t - (s.dropped t gn).len t)) ∧ StIs w' (ext F w w') R (s.dropped t gn) ∧ Chg F w w' := by
  rcases ht with rfl | rfl | rfl
  · exact drop0_c w F R s b1 b2 b3 b4 b5 b6 gn h hg
  · exact dropA1_c w F R s b1 b2 b3 b4 b5 b6 gn h hg
  · exact dropA2_c w F R s b1 b2 b3 b4 b5 b6 gn h hg
/-- The table's answers, in every world in which only blocks of S, and new ones, are others than in w. -/
def MeetsS (w : World) (S : Nat → Prop) (tv : Value) (sr : List UInt8) (mt : Int → Int → Bool) : Prop := ∀ W x y, Chg S w W → Calls Try.prog 44 #[tv, .string ⟨sr.toArray⟩, .agg #[.int .i64 x, .int .i64 y]] W fun e w' => e = .returned (.bool (mt x y)) ∧ Chg (fun _ => False) W w'
theorem MeetsS.at {w W : World} {S T : Nat → Prop} {tv : Value} {sr : List UInt8} {mt : Int → Int → Bool} (h : MeetsS w S tv sr mt) (c : Chg S w W) (hT : ∀ k, k < w.heap.size → T k → S k) : MeetsS W T tv sr mt := fun W2 x y c2 => h W2 x y (c.trans' c2 hT)
theorem meetsS_nil (w : World) (S : Nat → Prop) (sr : List UInt8) : MeetsS w S (.pointer none) sr (fun _ _ => false) := fun W x y _ => nmeets sr x y W
/-- What the closure has taken along. -/
structure Caps (w : World) (S : Nat → Prop) (b1 b2 b3 b4 b5 b6 : Nat) (up : Int) (p : Pol) (t : Nat) (now : Int) (tv : Value) (sr : List UInt8) : Prop where
  n1 : ¬ S b1
  n2 : ¬ S b2
  n3 : ¬ S b3
  n4 : ¬ S b4
  n5 : ¬ S b5
  n6 : ¬ S b6
  q1 : w.cell? ⟨b1, 0, none⟩ = some (.int .i64 up)
  q2 : w.cell? ⟨b2, 0, none⟩ = some (.int .i64 p.a) ∧ w.cell? ⟨b2, 1, none⟩ = some (.int .i64 p.b) ∧ w.cell? ⟨b2, 2, none⟩ = some (.int .i64 p.c)
  q3 : w.cell? ⟨b3, 0, none⟩ = some (.int .i64 t)
  q4 : w.cell? ⟨b4, 0, none⟩ = some (.int .i64 now)
  q5 : w.cell? ⟨b5, 0, none⟩ = some tv
  q6 : w.cell? ⟨b6, 0, none⟩ = some (.string ⟨sr.toArray⟩)
theorem Caps.kept {w W : World} {S T : Nat → Prop} {b1 b2 b3 b4 b5 b6 : Nat} {up : Int} {p : Pol} {t : Nat} {now : Int} {tv : Value} {sr : List UInt8} (h : Caps w S b1 b2 b3 b4 b5 b6 up p t now tv sr) (c : Chg S w W) (hT : ∀ k, T k → S k) : Caps W T b1 b2 b3 b4 b5 b6 up p t now tv sr :=
  ⟨fun e => h.n1 (hT _ e), fun e => h.n2 (hT _ e), fun e => h.n3 (hT _ e), fun e => h.n4 (hT _ e), fun e => h.n5 (hT _ e), fun e => h.n6 (hT _ e), c.cell h.q1 h.n1, ⟨c.cell h.q2.1 h.n2, c.cell h.q2.2.1 h.n2, c.cell h.q2.2.2 h.n2⟩, c.cell h.q3 h.n3, c.cell h.q4 h.n4, c.cell h.q5 h.n5, c.cell h.q6 h.n6⟩
def gnE (p : Pol) (t : Nat) (now up : Int) (mt : Int → Int → Bool) (x y : Int) : Bool := decide (y ≤ up) && p.gone t y now && !mt x y
set_option maxRecDepth 100000 in
set_option maxHeartbeats 2000000 in
theorem ser1_c (w : World) (S : Nat → Prop) (b1 b2 b3 b4 b5 b6 : Nat) (up : Int) (p : Pol) (t : Nat) (now : Int) (ht : t = 0 ∨ t = 1 ∨ t = 2) (h0 : 0 ≤ now) (h1 : now ≤ 1099511627776) (tv : Value) (sr : List UInt8) (mt : Int → Int → Bool) (H : Caps w S b1 b2 b3 b4 b5 b6 up p t now tv sr) (HM : MeetsS w S tv sr mt) : GoneS w S (six b1 b2 b3 b4 b5 b6) (gnE p t now up mt) := fun W0 x y c0 => by
  show Calls _ _ #[.agg #[.int .i64 x, .int .i64 y], .pointer (some ⟨b1, 0, none⟩), .pointer (some ⟨b2, 0, none⟩), .pointer (some ⟨b3, 0, none⟩), .pointer (some ⟨b4, 0, none⟩), .pointer (some ⟨b5, 0, none⟩), .pointer (some ⟨b6, 0, none⟩)] W0 fun e w' => e = .returned (.bool (gnE p t now up mt x y)) ∧ Chg (fun _ => False) W0 w'
  obtain ⟨W, hW⟩ : ∃ W, W = W0.alloc (.cells #[.int .i64 x, .int .i64 y] 24) := ⟨_, rfl⟩
  have cW : Chg (fun _ => False) W0 W := by rw [hW]; exact (Chg.refl _ W0).alloc _
  have hr : W.heap[W0.heap.size]? = some (.cells #[.int .i64 x, .int .i64 y] 24 (0, 0)) := by rw [hW]; exact heap_at_new _ _ _ rfl
  have K := H.kept (c0.trans (cW.mono (fun _ _ h => h.elim))) (T := S) (fun _ h => h)
  have r0 : W.cell? ⟨W0.heap.size, 0, none⟩ = some (.int .i64 x) := by rw [cell_of_heap hr]; rfl
  have r1 : W.cell? ⟨W0.heap.size, 1, none⟩ = some (.int .i64 y) := by rw [cell_of_heap hr]; rfl
  have q1 := K.q1
  obtain ⟨q2a, q2b, q2c⟩ := K.q2
  have q3 := K.q3
  have q4 := K.q4
  have Q5 := Lib.hid K.q5
  have Q6 := Lib.hid K.q6
  have R0' := Lib.hid r0
  have R1' := Lib.hid r1
  have GC := gone_c W p t x y now ht h0 h1
  have MC : Hid (∀ W2, Chg (fun _ => False) W W2 → Calls Try.prog 44 #[tv, .string ⟨sr.toArray⟩, .agg #[.int .i64 x, .int .i64 y]] W2 fun e w' => e = .returned (.bool (mt x y)) ∧ Chg (fun _ => False) W2 w') := fun W2 c2 => HM W2 x y (c0.trans ((cW.trans c2).mono (fun _ _ h => h.elim)))
  have hE : gnE p t now up mt x y = (decide (y ≤ up) && p.gone t y now && !mt x y) := rfl
  rw [hE]
  obtain ⟨m, hm⟩ : ∃ m, m = mt x y := ⟨_, rfl⟩
  obtain ⟨g, hgo⟩ : ∃ g, g = p.gone t y now := ⟨_, rfl⟩
  rw [← hm] at MC ⊢
  rw [← hgo] at GC ⊢
  have CW := Lib.hid cW
  have HW := Lib.hid hW
  rw [hW] at q1 q2a q2b q2c q3 q4 r0 r1
  clear hE hm hgo cW hW hr K H HM c0
  by_cases hy : y ≤ up
  · have hd : decide (y ≤ up) = true := decide_eq_true hy
    rw [hd]
    have HD := Lib.hid hd
    clear hy
    have GC := Lib.hid GC
    cases g with
    | false =>
      go_enter Try.func42, Try.ntmps42
      go_wp2_with fail
      rw [← HW.out]
      refine GC.out.mono ?_
      rintro e w1 ⟨rfl, c1⟩
      have C1 := Lib.hid (CW.out.trans c1)
      clear c1 hd q1 q2a q2b q2c q3 q4 r0 r1
      go_wp2_with fail
      go_ret
      exact ⟨rfl, C1.out⟩
    | true =>
      go_enter Try.func42, Try.ntmps42
      go_wp2_with fail
      rw [← HW.out]
      refine GC.out.mono ?_
      rintro e w1 ⟨rfl, c1⟩
      have C1 := Lib.hid (CW.out.trans c1)
      have MC1 := Lib.hid (MC.out w1 c1)
      have q5 := c1.cell Q5.out (fun h => h)
      have q6 := c1.cell Q6.out (fun h => h)
      have s0 := c1.cell R0'.out (fun h => h)
      have s1 := c1.cell R1'.out (fun h => h)
      clear c1 hd q1 q2a q2b q2c q3 q4 r0 r1
      go_wp2_with fail
      refine MC1.out.mono ?_
      rintro e w2 ⟨rfl, c2⟩
      have C2 := Lib.hid (C1.out.trans c2)
      clear c2 q5 q6 s0 s1
      go_wp2_with fail
      go_ret
      exact ⟨rfl, C2.out⟩
  · have hd : decide (y ≤ up) = false := decide_eq_false hy
    rw [hd]
    clear hy
    go_enter Try.func42, Try.ntmps42
    go_wp2_with fail
    go_ret
    exact ⟨rfl, by rw [← HW.out]; exact CW.out⟩
end Go.Proofs.Ytmnnahkaenikkaa
