/- Package purge: all, purge, Reach, Check, Do. -/
import Derived.Test.YtmnnahkaenikkaaUnl
import Derived.Test.YtmnnahkaenikkaaHoldM
namespace Go.Proofs.Ytmnnahkaenikkaa
open Go.RowKit Go.Cat
def AgV (a : Ag) : Prop := in64 a.cnt ∧ in64 a.sum ∧ in64 a.mn ∧ in64 a.mx
structure Wf (s : St) : Prop where
  raw : ∀ p ∈ s.raw, in64 p.val
  mid : ∀ a ∈ s.mid, AgV a
  long : ∀ a ∈ s.long, AgV a
theorem c0_64 : in64 0 := ⟨by omega, by omega⟩
theorem c1_64 : in64 1 := ⟨by omega, by omega⟩
theorem in64_wrap (n : Int) : in64 (IntKind.i64.wrap n) := by
  rw [IntWalk.i64_left]
  unfold in64 wrap64
  omega
theorem in64_nadd (a b : Int) : in64 (nadd a b) := by
  unfold nadd
  split
  · unfold in64; omega
  · split
    · unfold in64; omega
    · exact in64_wrap _
theorem in64_ite {p : Prop} [Decidable p] {a b : Int} (ha : in64 a) (hb : in64 b) : in64 (if p then a else b) := by split <;> assumption
theorem agAdd_v {a : Ag} (h : AgV a) {v : Int} (hv : in64 v) : AgV (agAdd a v) := by
  unfold agAdd
  split
  · exact ⟨c1_64, hv, hv, hv⟩
  · exact ⟨in64_nadd _ _, in64_nadd _ _, in64_ite hv h.2.2.1, in64_ite hv h.2.2.2⟩
theorem zero_v : AgV Ag.zero := ⟨c0_64, c0_64, c0_64, c0_64⟩
theorem ofP_v {x : Int} {l : List Pt} (h : ∀ p ∈ l, in64 p.val) : AgV (ofP x l) := by
  unfold ofP
  suffices h2 : ∀ (l : List Pt) (a : Ag), AgV a → (∀ p ∈ l, in64 p.val) → AgV (l.foldl (fun a p => agAdd a p.val) a) from
    h2 l _ ⟨c0_64, c0_64, c0_64, c0_64⟩ h
  intro l
  induction l with
  | nil => intro a ha _; exact ha
  | cons p r ih => intro a ha hl; exact ih _ (agAdd_v ha (hl p List.mem_cons_self)) (fun q hq => hl q (List.mem_cons_of_mem _ hq))
theorem jall_v {l : List Ag} (h : ∀ a ∈ l, AgV a) : AgV (jall l).1 := by
  unfold jall
  suffices h2 : ∀ (l : List Ag) (s : Ag × Bool), AgV s.1 → (∀ a ∈ l, AgV a) → AgV (l.foldl jst s).1 from h2 l _ zero_v h
  intro l
  induction l with
  | nil => intro s hs _; exact hs
  | cons a r ih =>
    intro s hs hl
    refine ih _ ?_ (fun q hq => hl q (List.mem_cons_of_mem _ hq))
    have ha := hl a List.mem_cons_self
    unfold jst
    split
    · exact hs
    · split
      · exact ⟨in64_nadd _ _, in64_nadd _ _, in64_ite ha.2.2.1 hs.2.2.1, in64_ite ha.2.2.2 hs.2.2.2⟩
      · exact ha
theorem of_v {s : St} (h : Wf s) {t : Nat} {x y : Int} {a : Ag} (ha : s.of t x y = some a) : AgV a := by
  unfold St.of at ha
  split at ha
  · unfold ofW at ha
    split at ha
    · cases ha
    · cases ha
      exact ofP_v (fun p hp => h.raw p (List.mem_filter.1 hp).1)
  · unfold joinA at ha
    split at ha
    · cases ha
      have := jall_v (l := s.mid.filter (mtR 1 x y)) (fun p hp => h.mid p (List.mem_filter.1 hp).1)
      exact this
    · cases ha
theorem win_v {s : St} (h : Wf s) (t : Nat) (x : Int) : AgV (s.win t x) := by
  unfold St.win
  cases e : s.of t (wst t x) (wst t x + wid t) with
  | none => exact zero_v
  | some a => exact of_v h e
theorem Wf.agg {s : St} (h : Wf s) (t : Nat) : ∀ a ∈ s.agg t, AgV a := by
  unfold St.agg
  split
  · exact h.mid
  · exact h.long
theorem Wf.setA {s : St} (h : Wf s) (t : Nat) {l : List Ag} (hl : ∀ a ∈ l, AgV a) : Wf (s.setA t l) := by
  unfold St.setA
  split
  · exact ⟨h.raw, hl, h.long⟩
  · exact ⟨h.raw, h.mid, hl⟩
theorem Wf.setM {s : St} (h : Wf s) (t : Nat) (m : Int) : Wf (s.setM t m) := by
  unfold St.setM
  split
  · exact ⟨h.raw, h.mid, h.long⟩
  · exact ⟨h.raw, h.mid, h.long⟩
theorem Wf.again {s : St} (h : Wf s) (t : Nat) (a b : Int) : Wf (s.setA t (s.againL t a b)) := h.setA t (fun y hy => by
  obtain ⟨x, hx, hy⟩ := List.mem_filterMap.1 hy
  unfold St.anew at hy
  split at hy
  · exact of_v h hy
  · cases hy; exact h.agg t _ hx)
theorem Wf.cut {s : St} (h : Wf s) (a b : Int) : Wf (s.cut a b) := ⟨fun p hp => h.raw p (List.mem_filter.1 hp).1, h.mid, h.long⟩
theorem Wf.purged {s : St} (h : Wf s) (a b : Int) : Wf (s.purged a b) := ((h.cut a b).again 1 a b).again 2 a b
theorem Wf.purge {s : St} (h : Wf s) (a b : Int) : Wf (s.purge a b).2 := by
  unfold St.purge
  split
  · exact h.purged a b
  · exact h
theorem Wf.rolled {t : Nat} {q : Int} : ∀ (f : Nat) {s : St} (md : Int), Wf s → Wf (rolledF f t q s md).1
  | 0, s, md, h => h
  | f + 1, s, md, h => by
    unfold rolledF
    split
    · exact h
    · split
      · exact h.setM t q
      · split
        · exact h.setM t q
        · split
          · exact h.setM t _
          · refine Wf.rolled f _ (Wf.setM (Wf.setA h t (fun a ha => ?_)) t _)
            rcases List.mem_append.1 ha with ha | ha
            · exact h.agg t a ha
            · obtain rfl := List.mem_singleton.1 ha
              exact win_v h t _
theorem Wf.put {s : St} (h : Wf s) {l : List Pt} (hl : ∀ p ∈ l, in64 p.val) : Wf (s.put l).2.2 := by
  unfold St.put
  split
  · exact h
  · refine ⟨?_, h.mid, h.long⟩
    show ∀ p ∈ (sput s.raw l).2.2, in64 p.val
    unfold sput
    split
    · exact h.raw
    · split
      · exact h.raw
      · intro p hp
        rcases mem_putAll hp with hp | hp
        · exact h.raw p hp
        · exact hl p hp
theorem Wf.roll {s : St} (h : Wf s) (now : Int) : Wf (s.roll now).2.2 := by
  unfold St.roll
  split
  · exact h
  · exact Wf.rolled _ _ (Wf.rolled _ _ h)
theorem agwf {t : Nat} {m : Int} {l : List Ag} (h : AgOk t m l) (hm : m ≤ 1099511627776) (hv : ∀ a ∈ l, AgV a) : ∀ a ∈ l, AgWf a := fun a ha => by
  obtain ⟨h1, h2, h3⟩ := h a ha
  exact ⟨by unfold in64; omega, hv a ha⟩
theorem all_mt {t : Nat} {m : Int} {l : List Ag} (h : AgOk t m l) (hm : m ≤ 1099511627776) {b : Int} (hb : 1099511627777 ≤ b) : l.filter (mtR t 0 b) = l := by
  rw [List.filter_eq_self]
  intro a ha
  obtain ⟨h1, h2, h3⟩ := h a ha
  have := wid_pos t
  unfold mtR
  rw [decide_eq_true_eq]
  omega
set_option maxRecDepth 100000 in
theorem pall_c (w : World) (F : Nat → Prop) (R : Nat) (s : St) (t : Nat) (ht : t = 1 ∨ t = 2) (h : StIs w F R s) : Calls Try.prog 60 #[.pointer (some ⟨R, 0, none⟩), .int .i64 t] w fun e w' => ∃ v', e = .returned v' ∧ OAgs w' v' (s.agg t) ∧ (∀ k, v'.ownBlock = some k → w.heap.size ≤ k) ∧ Chg (fun _ => False) w w' := by
  have AC := aggs_c w F R s t ht 0 4611686018427387904 h
  obtain ⟨i1, i2, i3, i4⟩ := h.inv.mkOk t ht
  rw [all_mt i1 i4 (by omega)] at AC
  have AC := Lib.hid AC
  clear h i1 i2 i3 i4 ht
  go_enter Try.func60, Try.ntmps60
  go_wp2_with fail
  refine AC.out.mono ?_
  rintro e w2 ⟨v2, rfl, o2, f2, c2⟩
  have O2 := Lib.hid o2
  have F2 := Lib.hid f2
  have C2 := Lib.hid c2
  obtain ⟨va, vc, hv⟩ := Owns.form o2
  subst hv
  clear o2 f2 c2
  go_wp2_with fail
  go_ret
  exact ⟨_, rfl, O2.out, F2.out, C2.out⟩
/-- What a purge reports. -/
def St.wins (s : St) (a b : Int) : Nat := unlikeN s.mid (s.purge a b).2.mid + unlikeN s.long (s.purge a b).2.long
theorem unlike_le (was is_ : List Ag) : unlikeN was is_ ≤ was.length := List.length_filter_le _ _
theorem ext_new {F : Nat → Prop} {a b c : World} (hz : a.heap.size ≤ b.heap.size) {R : Nat} {s : St} (h : StIs c (ext F b c) R s) : StIs c (ext F a c) R s := h.mono (fun k hk => by
  rcases hk with h | h
  · exact .inl h
  · exact .inr ⟨by omega, h.2⟩)
theorem inv_purge {s : St} (h : Inv s) (a b : Int) : Inv (s.purge a b).2 := by
  unfold St.purge
  split
  · exact inv_purged h a b
  · exact h
set_option maxRecDepth 100000 in
set_option maxHeartbeats 1000000 in
theorem ppurge_c (w : World) (F : Nat → Prop) (R : Nat) (s : St) (a b : Int) (h : StIs w F R s) (hwf : Wf s) :
    Calls Try.prog 32 #[.pointer (some ⟨R, 0, none⟩), .agg #[.int .i64 a, .int .i64 b]] w fun e w' => e = .returned (.agg #[.int .i64 (s.purge a b).1, .int .i64 (s.wins a b : Nat)]) ∧ StIs w' (ext F w w') R (s.purge a b).2 ∧ Chg F w w' := by
  obtain ⟨W, hW⟩ : ∃ W, W = (w.alloc (.cells #[.int .i64 a, .int .i64 b] 24)).alloc (.cells #[.int .i64 0, .int .i64 0] 34) := ⟨_, rfl⟩
  have cW : Chg (fun _ => False) w W := by rw [hW]; exact ((Chg.refl _ w).alloc _).alloc _
  have zW : W.heap.size = w.heap.size + 2 := by rw [hW]; simp
  have hb : W.heap[w.heap.size]? = some (.cells #[.int .i64 a, .int .i64 b] 24 (0, 0)) := by rw [hW]; exact Chg.heap ((Chg.refl (fun _ => False) _).alloc _) (heap_at_new w _ _ rfl) (fun h => h)
  have hr : W.heap[w.heap.size + 1]? = some (.cells #[.int .i64 0, .int .i64 0] 34 (0, 0)) := by rw [hW]; exact heap_at_new _ _ _ (by simp)
  have hI := h.inv
  have hI2 := inv_purge hI a b
  have hW2 := hwf.purge a b
  have h0 := h.old.same cW
  have A1 := Lib.hid (pall_c W _ R s 1 (.inl rfl) h0)
  have w1 := agwf hI.midOk hI.b1.2 hwf.mid
  have w2 := agwf hI.longOk hI.b2.2 hwf.long
  have w3 := agwf hI2.midOk hI2.b1.2 hW2.mid
  have w4 := agwf hI2.longOk hI2.b2.2 hW2.long
  have f1 := hI.midFew
  have f2 := hI.longFew
  have f3 := hI2.midFew
  have f4 := hI2.longFew
  have W1 := Lib.hid w1
  have W2 := Lib.hid w2
  have W3 := Lib.hid w3
  have W4 := Lib.hid w4
  have HB := Lib.hid hb
  have HR := Lib.hid hr
  have HW := Lib.hid hW
  have CW := Lib.hid cW
  have H0 := Lib.hid h0
  have ZW := Lib.hid zW
  have FF : Hid (∀ k, (fun k => F k ∧ k < w.heap.size) k → k < w.heap.size) := fun k hk => hk.2
  obtain ⟨u1, hu1⟩ : ∃ u, u = unlikeN s.mid (s.purge a b).2.mid := ⟨_, rfl⟩
  obtain ⟨u2, hu2⟩ : ∃ u, u = unlikeN s.long (s.purge a b).2.long := ⟨_, rfl⟩
  have hul1 : u1 ≤ 256 := by rw [hu1]; have := unlike_le s.mid (s.purge a b).2.mid; omega
  have hul2 : u2 ≤ 256 := by rw [hu2]; have := unlike_le s.long (s.purge a b).2.long; omega
  have ewin : s.wins a b = u1 + u2 := by rw [hu1, hu2]; rfl
  rw [ewin]
  obtain ⟨n, hn⟩ : ∃ n, n = (s.purge a b).1 := ⟨_, rfl⟩
  obtain ⟨s', hs'⟩ : ∃ s', s' = (s.purge a b).2 := ⟨_, rfl⟩
  rw [← hn, ← hs']
  rw [← hs'] at hu1 hu2 W3 W4 f3 f4
  have HU1 := Lib.hid hu1
  have HU2 := Lib.hid hu2
  have HN := Lib.hid hn
  have HS' := Lib.hid hs'
  have hw1 : IntKind.i64.wrap ((u1 : Int) + u2) = ((u1 + u2 : Nat) : Int) := by rw [IntWalk.i64_in _ (by omega)]; omega
  have hw2 : wrap64 ((u1 : Int) + u2) = ((u1 + u2 : Nat) : Int) := by unfold wrap64; omega
  clear hb hr hW cW zW h hwf hI hI2 hW2 h0 w1 w2 w3 w4 ewin hu1 hu2 hn hs'
  go_enter Try.func32, Try.ntmps32
  go_wp2_with fail
  rw [← HW.out]
  refine A1.out.mono ?_
  rintro e x1 ⟨v1, rfl, o1, g1, c1⟩
  have A2 := Lib.hid (pall_c x1 _ R s 2 (.inr rfl) (H0.out.same c1))
  obtain ⟨va1, vc1, hv1⟩ := Owns.form o1
  have O1 := Lib.hid o1
  have G1 := Lib.hid g1
  have C1 := Lib.hid c1
  subst hv1
  clear o1 g1 c1
  go_wp2_with fail
  refine A2.out.mono ?_
  rintro e x2 ⟨v2, rfl, o2, g2, c2⟩
  have c02 := C1.out.trans c2
  obtain ⟨va2, vc2, hv2⟩ := Owns.form o2
  have hs2 := H0.out.same c02
  have PC := stpurge_c x2 _ R s a b hs2
  rw [← HN.out, ← HS'.out] at PC
  have PC := Lib.hid PC
  have hb2 := c02.heap HB.out (fun h => h)
  have q0 : x2.cell? ⟨w.heap.size, 0, none⟩ = some (.int .i64 a) := by rw [cell_of_heap hb2]; rfl
  have q1 : x2.cell? ⟨w.heap.size, 1, none⟩ = some (.int .i64 b) := by rw [cell_of_heap hb2]; rfl
  have HR2 := Lib.hid (c02.heap HR.out (fun h => h))
  have O1' := Lib.hid (Owns.kept O1.out c2 (fun _ _ h => h))
  have O2 := Lib.hid o2
  have G2 := Lib.hid g2
  have C02 := Lib.hid c02
  have C2 := Lib.hid c2
  subst hv2
  clear o2 g2 c2 c02 hs2 hb2
  go_wp2_with fail
  refine PC.out.mono ?_
  rintro e x3 ⟨rfl, h3, c3⟩
  have hz := ZW.out
  have hz1 := C1.out.size
  have hz2 := C2.out.size
  have nof : ∀ k, w.heap.size ≤ k → ¬ (F k ∧ k < w.heap.size) := fun k hk h => by omega
  have O1'' := Lib.hid (Owns.kept O1'.out c3 (fun k hk => nof k (by have := G1.out k hk; omega)))
  have O2'' := Lib.hid (Owns.kept O2.out c3 (fun k hk => nof k (by have := G2.out k hk; omega)))
  have HR3 := Lib.hid (c3.heap HR2.out (nof _ (by omega)))
  have H3 := Lib.hid h3
  have C3 := Lib.hid c3
  have A3 := Lib.hid (pall_c x3 _ R s' 1 (.inl rfl) h3)
  clear h3 c3 q0 q1 hz hz1 hz2 nof
  go_wp2_with fail
  refine A3.out.mono ?_
  rintro e x4 ⟨v4, rfl, o4, g4, c4⟩
  obtain ⟨va4, vc4, hv4⟩ := Owns.form o4
  have U1 := unlike_c x4 _ v4 s.mid s'.mid (Owns.reads (Owns.kept O1''.out c4 (fun _ _ h => h))) (Owns.reads o4) f1 f3 W1.out W3.out
  rw [← HU1.out] at U1
  have U1 := Lib.hid U1
  have C4 := Lib.hid c4
  subst hv4
  clear o4 g4 c4
  go_wp2_with fail
  refine U1.out.mono ?_
  rintro e x5 ⟨rfl, c5⟩
  have c35 := C4.out.trans c5
  have A4 := Lib.hid (pall_c x5 _ R s' 2 (.inr rfl) (H3.out.same c35))
  have C35 := Lib.hid c35
  clear c5 c35
  go_wp2_with fail
  refine A4.out.mono ?_
  rintro e x6 ⟨v6, rfl, o6, g6, c6⟩
  have c36 := C35.out.trans c6
  obtain ⟨va6, vc6, hv6⟩ := Owns.form o6
  have U2 := unlike_c x6 _ v6 s.long s'.long (Owns.reads (Owns.kept O2''.out c36 (fun _ _ h => h))) (Owns.reads o6) f2 f4 W2.out W4.out
  rw [← HU2.out] at U2
  have U2 := Lib.hid U2
  have C36 := Lib.hid c36
  subst hv6
  clear o6 g6 c6 c36
  go_wp2_with fail
  refine U2.out.mono ?_
  rintro e x7 ⟨rfl, c7⟩
  have c37 := C36.out.trans c7
  have hr7 := c37.heap HR3.out (fun h => h)
  have s0 : x7.cell? ⟨w.heap.size + 1, 0, none⟩ = some (.int .i64 0) := by rw [cell_of_heap hr7]; rfl
  have s1 : x7.cell? ⟨w.heap.size + 1, 1, none⟩ = some (.int .i64 0) := by rw [cell_of_heap hr7]; rfl
  have hst := run_storeAt_agg (P := Try.prog) x7 34 (w.heap.size + 1) 0 [.int .i64 n, .int .i64 ((u1 + u2 : Nat) : Int)] (by kernel_rfl) (fun j hj => row_some hr7 j hj) (fun j _ => frozen_of_heap hr7 _) (by intro u hu; simp at hu; rcases hu with rfl | rfl <;> rfl)
  have hr8 : (x7.setCells (w.heap.size + 1) 0 [.int .i64 n, .int .i64 ((u1 + u2 : Nat) : Int)]).heap[w.heap.size + 1]? = some (.cells #[.int .i64 n, .int .i64 ((u1 + u2 : Nat) : Int)] 34 (0, 0)) := Cat.heap_setCell_same (Cat.heap_setCell_same hr7 0 _) 1 _
  obtain ⟨x8, hx8⟩ : ∃ x8, x8 = x7.setCells (w.heap.size + 1) 0 [.int .i64 n, .int .i64 ((u1 + u2 : Nat) : Int)] := ⟨_, rfl⟩
  have c8 : Chg (fun k => k = w.heap.size + 1) x7 x8 := by rw [hx8]; exact Chg.setCells _ _ _ _
  rw [← hx8] at hst hr8
  have HR8 := Lib.hid hr8
  have C37 := Lib.hid c37
  have C8 := Lib.hid c8
  clear c7 c37 hr7 s0 s1 hx8 c8 hr8
  go_wp2_with (first | refine wpList_store rfl 34 _ _ rfl _ _ _ rfl rfl hst ?_)
  have z1 := CW.out.size
  have z2 := C02.out.size
  have z3 := C3.out.size
  have zW := ZW.out
  have c38 : Chg (fun k => k = w.heap.size + 1) x3 x8 := (C37.out.mono (fun _ _ h => h.elim)).trans C8.out
  have hz8 := c38.size
  have h8 : StIs x8 (ext (fun k => F k ∧ k < w.heap.size) x2 x3) R s' := H3.out.kept c38 (fun k hk e => by
    have e : k = w.heap.size + 1 := e
    rcases hk with h | h
    · omega
    · omega)
  refine bodyPost_ret (v := .agg #[.int .i64 n, .int .i64 ((u1 + u2 : Nat) : Int)]) (results_cell_row (fn := Try.f32) (p := 4) (ty := 34) rfl _ _ (w.heap.size + 1) _ _ (0, 0) _ rfl HR8.out Try.underlying34 rfl (by kernel_rfl)) rfl ⟨rfl, h8.mono (fun k hk => ?_), ?_⟩
  · rcases hk with h | h
    · exact .inl h.1
    · exact .inr ⟨by omega, by omega⟩
  · have k1 : Chg F w x3 := ((CW.out.trans C02.out).mono (fun _ _ h => h.elim)).trans' C3.out (fun k hk h => h.1)
    exact k1.trans' c38 (fun k hk e => by have e : k = w.heap.size + 1 := e; omega)
end Go.Proofs.Ytmnnahkaenikkaa
