/- Contracts of package stamp: Unpack, Turn. -/
import Derived.Test.YtjhkhdockiocgaaStamp3
namespace Go.Proofs.Ytjhkhdockiocgaa
open Go.RowKit Go.Cat

theorem reader_bound {w : World} {S : Nat → Prop} {b : Nat} {l : List UInt8} {e : Int} (h : ReaderAt w S b l e) : ReaderAt w (fun k => S k ∧ k < w.heap.size) b l e := by
  obtain ⟨bv, T, h1, h2, h3, h4, h5⟩ := h
  exact ⟨bv, T, h1, h2, h3, ⟨h4, (Array.getElem?_eq_some_iff.1 h1).1⟩, fun k hk => ⟨h5 k hk, h2.lt' k hk⟩⟩

theorem load_stamp (w : World) (g : Nat) (a b c d : Value) (T : TypeId) (h : w.heap[g]? = some (.cells #[a, b, c, d] T (0, 0))) :
    (Instr.loadAt 136 (.pointer (some ⟨g, 0, none⟩))).run Try.prog w = .ok (.agg #[a, b]) w := by
  refine run_loadAt_agg (P := Try.prog) w 136 _ g 0 [a, b] Try.underlying136 rfl (by kernel_rfl) (fun j u hj => ?_)
  rw [cell_of_heap h, Nat.zero_add]
  match j, hj with
  | 0, hj => simpa using hj
  | 1, hj => simpa using hj
theorem load_sector (w : World) (g : Nat) (a b c d : Value) (T : TypeId) (h : w.heap[g]? = some (.cells #[a, b, c, d] T (0, 0))) :
    (Instr.loadAt 138 (.pointer (some ⟨g, 0, none⟩))).run Try.prog w = .ok (.agg #[a, b, c, d]) w := by
  refine run_loadAt_agg (P := Try.prog) w 138 _ g 0 [a, b, c, d] Try.underlying138 rfl (by kernel_rfl) (fun j u hj => ?_)
  rw [cell_of_heap h, Nat.zero_add]
  simpa using hj

theorem set4 {w : World} {g : Nat} {c : Array Value} {T : TypeId} (a b x d : Value) (h : w.heap[g]? = some (.cells c T (0, 0))) (hc : c.size = 4) :
    ((((w.setCell ⟨g, 0, none⟩ a).setCell ⟨g, 1, none⟩ b).setCell ⟨g, 2, none⟩ x).setCell ⟨g, 3, none⟩ d).heap[g]? = some (.cells #[a, b, x, d] T (0, 0)) ∧
    Chg (fun k => k = g) w ((((w.setCell ⟨g, 0, none⟩ a).setCell ⟨g, 1, none⟩ b).setCell ⟨g, 2, none⟩ x).setCell ⟨g, 3, none⟩ d) := by
  constructor
  · have := Cat.heap_setCell_same (Cat.heap_setCell_same (Cat.heap_setCell_same (Cat.heap_setCell_same h 0 a) 1 b) 2 x) 3 d
    obtain ⟨l⟩ := c
    match l, hc with
    | [_, _, _, _], _ => simpa using this
  · exact ((((Chg.refl (fun k => k = g) w).setCell (p := ⟨g, 0, none⟩) (fun _ => rfl) _).setCell (p := ⟨g, 1, none⟩) (fun _ => rfl) _).setCell (p := ⟨g, 2, none⟩) (fun _ => rfl) _).setCell (p := ⟨g, 3, none⟩) (fun _ => rfl) _
theorem slice_cut (w : World) (a : Option Addr) (n c m : Nat) (h : m ≤ c) :
    (Instr.sliceAt 33 (.slice a n c) none (some (.int .i64 m)) (some (.int .i64 m))).run Try.prog w = .ok (.slice a m m) w := by
  have h4 : (m : Int) ≤ c := by omega
  have h5 : ¬ (m : Int) < 0 := by omega
  simp [go_sem, Instr.sliceAt, Instr.slice, Instr.sliceBounds, h4]

set_option maxRecDepth 100000 in
set_option maxHeartbeats 1000000 in
theorem unpack_zero (v : Value) (w : World) (l : List UInt8) (hv : RB w v l) (hl : l.length = 64) (hz : ∀ x ∈ l, x = 0) :
    Calls Try.prog 115 #[v] w fun e w' => e = .returned (.tuple #[.agg #[.int .u32 0, .int .u32 0, .bool false, .slice none 0 0], .int .i64 7]) ∧ Chg (fun _ => False) w w' := by
  obtain ⟨va, vc, rfl⟩ := hv.form
  have HV := Lib.hid hv
  rw [hl] at HV ⊢
  have HL := Lib.hid hl
  have hd : decide (∀ x ∈ l, x = 0) = true := decide_eq_true hz
  have HD := Lib.hid hd
  clear hv hl hd hz
  go_enter Try.func115, Try.ntmps115
  go_wp2_with fail
  refine (zero_any _ _ l (HV.out.alloc _) (by rw [HL.out]; omega)).mono ?_
  rintro e w1 ⟨rfl, hw1⟩
  subst hw1
  rw [HD.out]
  go_wp2_with fail
  refine bodyPost_ret (v := .tuple #[.agg #[.int .u32 0, .int .u32 0, .bool false, .slice none 0 0], .int .i64 7]) (results_row_tmp (fn := Try.f115) (p := 2) (u := 3) (ty := 138) rfl _ _ w.heap.size _ _ (0, 0) _ rfl (heap_alloc_new _ _) Try.underlying138 rfl (by kernel_rfl)) rfl ⟨rfl, (Chg.refl _ w).alloc _⟩

set_option maxRecDepth 100000 in
set_option maxHeartbeats 1000000 in
theorem unpack_torn (v : Value) (w : World) (l : List UInt8) (hv : RB w v l) (hl : l.length = 64) (hz : ¬ ∀ x ∈ l, x = 0) (hs : ¬ stampsAlike l) :
    Calls Try.prog 115 #[v] w fun e w' => e = .returned (.tuple #[.agg #[.int .u32 0, .int .u32 0, .bool false, .slice none 0 0], .int .i64 5]) ∧ Chg (fun _ => False) w w' := by
  obtain ⟨va, vc, rfl⟩ := hv.form
  have HV := Lib.hid hv
  rw [hl] at HV ⊢
  have HL := Lib.hid hl
  have hd : decide (∀ x ∈ l, x = 0) = false := decide_eq_false hz
  have HD := Lib.hid hd
  have HS := Lib.hid hs
  clear hv hl hd hz hs
  go_enter Try.func115, Try.ntmps115
  go_wp2_with fail
  refine (zero_any _ _ l (HV.out.alloc _) (by rw [HL.out]; omega)).mono ?_
  rintro e w1 ⟨rfl, hw1⟩
  rw [HD.out]
  have hh1 := heap_at_new w (.cells #[.int .u32 0, .int .u32 0, .bool false, .slice none 0 0] 138) w.heap.size rfl
  have c1 := (Chg.refl (fun _ => False) w).alloc (.cells #[.int .u32 0, .int .u32 0, .bool false, .slice none 0 0] 138)
  have v1 := HV.out.alloc (.cells #[.int .u32 0, .int .u32 0, .bool false, .slice none 0 0] 138)
  rw [hw1] at hh1 c1 v1
  clear hw1
  have H1 := Lib.hid hh1
  have V1 := Lib.hid v1
  have hbs : w.heap.size < w1.heap.size := (Array.getElem?_eq_some_iff.1 hh1).1
  clear hh1 v1 HV
  go_wp2_with fail
  refine (rread_any w1 _ l V1.out (by rw [HL.out]; omega)).mono ?_
  rintro e w2 ⟨b, rfl, h2, c2⟩
  have H2 := Lib.hid (reader_bound h2)
  have hb1 : w1.heap.size ≤ b := by obtain ⟨_, _, _, _, _, h, _⟩ := h2; exact h
  clear h2 V1
  go_wp2_with fail
  refine (get_ok w2 _ b l H2.out (fun k hk => hk.2) (by rw [HL.out]; omega) (by rw [HL.out]; omega)).mono ?_
  rintro e w3 ⟨rfl, h3, c3⟩
  have H3 := Lib.hid h3
  clear h3 H2
  obtain ⟨T, hT⟩ : ∃ T, T = ofBe (l.take 4) := ⟨_, rfl⟩
  obtain ⟨P, hP⟩ : ∃ P, P = ofBe ((l.drop 4).take 4) := ⟨_, rfl⟩
  rw [← hT, ← hP]
  have HT := Lib.hid hT
  have HP := Lib.hid hP
  clear hT hP
  have z3 := c3.size
  have z2 := c2.size
  go_wp2_with fail
  obtain ⟨w4, hw4⟩ : ∃ w4, w4 = w3.alloc (.cells #[.int .u32 T, .int .u32 P, .bool false, .slice none 0 0] 138) := ⟨_, rfl⟩
  have hh4 : w4.heap[w3.heap.size]? = some (.cells #[.int .u32 T, .int .u32 P, .bool false, .slice none 0 0] 138 (0, 0)) := by rw [hw4]; exact heap_at_new _ _ _ rfl
  have c4 : Chg (fun _ => False) w3 w4 := by rw [hw4]; exact (Chg.refl _ w3).alloc _
  have H4 := Lib.hid hh4
  rw [← hw4]
  clear hh4 hw4
  have z4 := c4.size
  refine (rnum_ok w4 _ b _ 1 (H3.out.kept c4 (fun _ _ h => h)) (by omega) (by simp; rw [HL.out]; omega) (by simp; rw [HL.out]; omega)).mono ?_
  rintro e w5 ⟨rfl, h5, c5⟩
  rw [List.drop_drop] at h5
  have H5 := Lib.hid h5
  clear h5 H3
  obtain ⟨n, hn⟩ : ∃ n, n = ofBe ((l.drop 8).take 1) := ⟨_, rfl⟩
  have hn8 : n < 256 := by
    have h1 := ofBe_lt ((l.drop 8).take 1)
    have h2 : ((l.drop 8).take 1).length = 1 := by simp; rw [HL.out]; omega
    rw [h2] at h1
    rw [hn]; simpa using h1
  rw [← hn]
  have HN := Lib.hid hn
  clear hn
  have hw : IntKind.i64.wrap (n : Int) = n := by rw [IntKind.wrap_i64]; omega
  go_wp2_with fail
  refine (rraw_ok w5 _ b _ 47 H5.out (by simp; rw [HL.out]; omega) (by simp; rw [HL.out]; omega)).mono ?_
  rintro e w6 ⟨dv, rfl, hd6, f6, h6, c6⟩
  rw [List.drop_drop] at h6
  have H6 := Lib.hid h6
  obtain ⟨D, hD⟩ : ∃ D, D = (l.drop (8 + 1)).take 47 := ⟨_, rfl⟩
  rw [← hD] at hd6
  have hDl : D.length = 47 := by rw [hD]; simp; rw [HL.out]; omega
  obtain ⟨da, dc, rfl⟩ := hd6.form
  have D6 := Lib.hid hd6
  rw [hDl] at D6 f6 ⊢
  have HDD := Lib.hid hD
  have HDL := Lib.hid hDl
  clear h6 H5 hd6 hD hDl
  have hne : ¬ w3.heap.size = b := by
    have := H6.out
    obtain ⟨_, _, _, _, _, h, _⟩ := this
    omega
  have c46 : Chg (fun k => k = b) w4 w6 := c5.trans c6
  have hh6 := c46.heap H4.out hne
  have HH6 := Lib.hid hh6
  have hL : Hid (∀ w', Chg (fun k => k = b) w6.drew w' → (Instr.loadAt 136 (.pointer (some ⟨w3.heap.size, 0, none⟩))).run Try.prog w' = .ok (.agg #[.int .u32 T, .int .u32 P]) w') :=
    fun w' c => load_stamp w' _ _ _ _ _ _ ((Chg.heap (((Chg.refl _ w6).drew).trans c)) HH6.out hne)
  clear hh6
  obtain ⟨T2, hT2⟩ : ∃ T2, T2 = ofBe ((l.drop 56).take 4) := ⟨_, rfl⟩
  obtain ⟨P2, hP2⟩ : ∃ P2, P2 = ofBe ((l.drop 60).take 4) := ⟨_, rfl⟩
  have HT2 := Lib.hid hT2
  have HP2 := Lib.hid hP2
  clear hT2 hP2
  go_wp2_with fail
  refine wpT.begin (fun k => k = b) 5 (by kernel_rfl) rfl ?_
  refine wpT.take 0 rfl (by kernel_rfl) (fun _ _ _ h => h) rfl (fun w' hw' => by go_simp <;> with_reducible rfl) ?_
  simp only [Act.put, List.setIfInBounds_toArray, List.set_cons_zero, List.set_cons_succ]
  refine wpT.take 2 rfl (by kernel_rfl) (fun _ _ _ h => h) rfl (fun w' hw' => by go_simp <;> with_reducible rfl) ?_
  simp only [Act.put, List.setIfInBounds_toArray, List.set_cons_zero, List.set_cons_succ]
  refine wpT.take 3 rfl (by kernel_rfl) (fun _ _ _ h => h) rfl (fun w' hw' => exec_load _ _ _ _ rfl rfl (hL.out w' hw')) ?_
  simp only [Act.put, List.setIfInBounds_toArray, List.set_cons_zero, List.set_cons_succ]
  refine wpT.call 1 rfl (by kernel_rfl) rfl (fun K hK => ?_)
  go_wp2_with fail
  refine (get_ok w6.drew _ b _ (H6.out.kept (T := fun _ => False) (Chg.refl _ w6).drew (fun _ _ h => h)) (fun k hk => by have := hk.2; have := c6.size; have := c5.size; show k < w6.heap.size; omega) (by simp; rw [HL.out]; omega) (by simp; rw [HL.out]; omega)).mono ?_
  rintro e w7 ⟨rfl, h7, c7⟩
  clear h7
  rw [List.drop_drop, ← HT2.out, ← HP2.out]
  refine hK _ _ c7 ?_
  have hz7 := ((((c2.mono (fun _ _ h => h.elim)).trans c3).trans (c4.mono (fun _ _ h => h.elim))).trans c46).trans (((Chg.refl (fun k => k = b) w6).drew).trans c7)
  have hh7 := hz7.heap H1.out (by omega)
  have c07 : Chg (fun _ => False) w w7 := (c1.trans c2).new (((c3.trans (c4.mono (fun _ _ h => h.elim))).trans c46).trans (((Chg.refl (fun k => k = b) w6).drew).trans c7)) (fun k hk => by have := c1.size; omega)
  refine wpT.take 4 (v := .bool true) rfl (by kernel_rfl) (fun _ _ _ h => h) rfl (fun w' hw' => by
    go_simp
    have hs := HS.out
    unfold stampsAlike at hs
    rw [← HT.out, ← HP.out, ← HT2.out, ← HP2.out] at hs
    exact fun e1 e2 => hs ⟨by omega, by omega⟩) ?_
  simp only [Act.put, List.setIfInBounds_toArray, List.set_cons_zero, List.set_cons_succ]
  refine wpT.done (by kernel_rfl) ?_
  have q0 : w7.cell? ⟨w.heap.size, 0, none⟩ = some (.int .u32 0) := by rw [cell_of_heap hh7]; rfl
  have q1 : w7.cell? ⟨w.heap.size, 1, none⟩ = some (.int .u32 0) := by rw [cell_of_heap hh7]; rfl
  have q2 : w7.cell? ⟨w.heap.size, 2, none⟩ = some (.bool false) := by rw [cell_of_heap hh7]; rfl
  have q3 : w7.cell? ⟨w.heap.size, 3, none⟩ = some (.slice none 0 0) := by rw [cell_of_heap hh7]; rfl
  have qf : ∀ i, w7.frozen? ⟨w.heap.size, i, none⟩ = false := frozen_of_heap hh7
  have HH7 := Lib.hid hh7
  clear hh7
  go_wp2_with fail
  obtain ⟨g1, g2⟩ := set4 (.int .u32 0) (.int .u32 0) (.bool false) (.slice none 0 0) HH7.out rfl
  refine bodyPost_ret (v := .tuple #[.agg #[.int .u32 0, .int .u32 0, .bool false, .slice none 0 0], .int .i64 5]) (results_row_tmp (fn := Try.f115) (p := 2) (u := 3) (ty := 138) rfl _ _ w.heap.size _ _ (0, 0) _ rfl g1 Try.underlying138 rfl (by kernel_rfl)) rfl ⟨rfl, c07.new g2 (fun k hk => by omega)⟩

set_option maxRecDepth 100000 in
set_option maxHeartbeats 1000000 in
theorem unpack_ok (v : Value) (w : World) (l : List UInt8) (hv : RB w v l) (hl : l.length = 64) (hz : ¬ ∀ x ∈ l, x = 0) (hs : stampsAlike l) (hc : cleanRest l) :
    Calls Try.prog 115 #[v] w fun e w' => ∃ dv, e = .returned (.tuple #[.agg #[.int .u32 (ofBe (l.take 4)), .int .u32 (ofBe ((l.drop 4).take 4)), .bool (decide (128 ≤ ofBe ((l.drop 8).take 1))), dv], .int .i64 0]) ∧
      OB w' dv (((l.drop 9).take 47).take (ofBe ((l.drop 8).take 1) % 128)) ∧ Fresh w dv ∧ Chg (fun _ => False) w w' := by
  obtain ⟨va, vc, rfl⟩ := hv.form
  have HV := Lib.hid hv
  rw [hl] at HV ⊢
  have HL := Lib.hid hl
  have hd : decide (∀ x ∈ l, x = 0) = false := decide_eq_false hz
  have HD := Lib.hid hd
  have HS := Lib.hid hs
  have HCR := Lib.hid hc
  clear hv hl hd hz hs hc
  go_enter Try.func115, Try.ntmps115
  go_wp2_with fail
  refine (zero_any _ _ l (HV.out.alloc _) (by rw [HL.out]; omega)).mono ?_
  rintro e w1 ⟨rfl, hw1⟩
  rw [HD.out]
  have hh1 := heap_at_new w (.cells #[.int .u32 0, .int .u32 0, .bool false, .slice none 0 0] 138) w.heap.size rfl
  have c1 := (Chg.refl (fun _ => False) w).alloc (.cells #[.int .u32 0, .int .u32 0, .bool false, .slice none 0 0] 138)
  have v1 := HV.out.alloc (.cells #[.int .u32 0, .int .u32 0, .bool false, .slice none 0 0] 138)
  rw [hw1] at hh1 c1 v1
  clear hw1
  have H1 := Lib.hid hh1
  have V1 := Lib.hid v1
  have hbs : w.heap.size < w1.heap.size := (Array.getElem?_eq_some_iff.1 hh1).1
  clear hh1 v1 HV
  go_wp2_with fail
  refine (rread_any w1 _ l V1.out (by rw [HL.out]; omega)).mono ?_
  rintro e w2 ⟨b, rfl, h2, c2⟩
  have H2 := Lib.hid (reader_bound h2)
  have hb1 : w1.heap.size ≤ b := by obtain ⟨_, _, _, _, _, h, _⟩ := h2; exact h
  clear h2 V1
  go_wp2_with fail
  refine (get_ok w2 _ b l H2.out (fun k hk => hk.2) (by rw [HL.out]; omega) (by rw [HL.out]; omega)).mono ?_
  rintro e w3 ⟨rfl, h3, c3⟩
  have H3 := Lib.hid h3
  clear h3 H2
  obtain ⟨T, hT⟩ : ∃ T, T = ofBe (l.take 4) := ⟨_, rfl⟩
  obtain ⟨P, hP⟩ : ∃ P, P = ofBe ((l.drop 4).take 4) := ⟨_, rfl⟩
  rw [← hT, ← hP]
  have HT := Lib.hid hT
  have HP := Lib.hid hP
  clear hT hP
  have z3 := c3.size
  have z2 := c2.size
  go_wp2_with fail
  obtain ⟨w4, hw4⟩ : ∃ w4, w4 = w3.alloc (.cells #[.int .u32 T, .int .u32 P, .bool false, .slice none 0 0] 138) := ⟨_, rfl⟩
  have hh4 : w4.heap[w3.heap.size]? = some (.cells #[.int .u32 T, .int .u32 P, .bool false, .slice none 0 0] 138 (0, 0)) := by rw [hw4]; exact heap_at_new _ _ _ rfl
  have c4 : Chg (fun _ => False) w3 w4 := by rw [hw4]; exact (Chg.refl _ w3).alloc _
  have H4 := Lib.hid hh4
  rw [← hw4]
  clear hh4 hw4
  have z4 := c4.size
  refine (rnum_ok w4 _ b _ 1 (H3.out.kept c4 (fun _ _ h => h)) (by omega) (by simp; rw [HL.out]; omega) (by simp; rw [HL.out]; omega)).mono ?_
  rintro e w5 ⟨rfl, h5, c5⟩
  rw [List.drop_drop] at h5
  have H5 := Lib.hid h5
  clear h5 H3
  obtain ⟨n, hn⟩ : ∃ n, n = ofBe ((l.drop 8).take 1) := ⟨_, rfl⟩
  have hn8 : n < 256 := by
    have h1 := ofBe_lt ((l.drop 8).take 1)
    have h2 : ((l.drop 8).take 1).length = 1 := by simp; rw [HL.out]; omega
    rw [h2] at h1
    rw [hn]; simpa using h1
  rw [← hn]
  have HN := Lib.hid hn
  clear hn
  have hw : IntKind.i64.wrap (n : Int) = n := by rw [IntKind.wrap_i64]; omega
  go_wp2_with fail
  refine (rraw_ok w5 _ b _ 47 H5.out (by simp; rw [HL.out]; omega) (by simp; rw [HL.out]; omega)).mono ?_
  rintro e w6 ⟨dv, rfl, hd6, f6, h6, c6⟩
  rw [List.drop_drop] at h6
  have H6 := Lib.hid h6
  obtain ⟨D, hD⟩ : ∃ D, D = (l.drop (8 + 1)).take 47 := ⟨_, rfl⟩
  rw [← hD] at hd6
  have hDl : D.length = 47 := by rw [hD]; simp; rw [HL.out]; omega
  obtain ⟨da, dc, rfl⟩ := hd6.form
  have D6 := Lib.hid hd6
  rw [hDl] at D6 f6 ⊢
  have HDD := Lib.hid hD
  have HDL := Lib.hid hDl
  clear h6 H5 hd6 hD hDl
  have hne : ¬ w3.heap.size = b := by
    have := H6.out
    obtain ⟨_, _, _, _, _, h, _⟩ := this
    omega
  have c46 : Chg (fun k => k = b) w4 w6 := c5.trans c6
  have hh6 := c46.heap H4.out hne
  have HH6 := Lib.hid hh6
  have hL : Hid (∀ w', Chg (fun k => k = b) w6.drew w' → (Instr.loadAt 136 (.pointer (some ⟨w3.heap.size, 0, none⟩))).run Try.prog w' = .ok (.agg #[.int .u32 T, .int .u32 P]) w') :=
    fun w' c => load_stamp w' _ _ _ _ _ _ ((Chg.heap (((Chg.refl _ w6).drew).trans c)) HH6.out hne)
  clear hh6
  obtain ⟨T2, hT2⟩ : ∃ T2, T2 = ofBe ((l.drop 56).take 4) := ⟨_, rfl⟩
  obtain ⟨P2, hP2⟩ : ∃ P2, P2 = ofBe ((l.drop 60).take 4) := ⟨_, rfl⟩
  have HT2 := Lib.hid hT2
  have HP2 := Lib.hid hP2
  clear hT2 hP2
  go_wp2_with fail
  refine wpT.begin (fun k => k = b) 5 (by kernel_rfl) rfl ?_
  refine wpT.take 0 rfl (by kernel_rfl) (fun _ _ _ h => h) rfl (fun w' hw' => by go_simp <;> with_reducible rfl) ?_
  simp only [Act.put, List.setIfInBounds_toArray, List.set_cons_zero, List.set_cons_succ]
  refine wpT.take 2 rfl (by kernel_rfl) (fun _ _ _ h => h) rfl (fun w' hw' => by go_simp <;> with_reducible rfl) ?_
  simp only [Act.put, List.setIfInBounds_toArray, List.set_cons_zero, List.set_cons_succ]
  refine wpT.take 3 rfl (by kernel_rfl) (fun _ _ _ h => h) rfl (fun w' hw' => exec_load _ _ _ _ rfl rfl (hL.out w' hw')) ?_
  simp only [Act.put, List.setIfInBounds_toArray, List.set_cons_zero, List.set_cons_succ]
  refine wpT.call 1 rfl (by kernel_rfl) rfl (fun K hK => ?_)
  go_wp2_with fail
  refine (get_ok w6.drew _ b _ (H6.out.kept (T := fun _ => False) (Chg.refl _ w6).drew (fun _ _ h => h)) (fun k hk => by have := hk.2; have := c6.size; have := c5.size; show k < w6.heap.size; omega) (by simp; rw [HL.out]; omega) (by simp; rw [HL.out]; omega)).mono ?_
  rintro e w7 ⟨rfl, h7, c7⟩
  clear h7
  rw [List.drop_drop, ← HT2.out, ← HP2.out]
  refine hK _ _ c7 ?_
  have hz7 := ((((c2.mono (fun _ _ h => h.elim)).trans c3).trans (c4.mono (fun _ _ h => h.elim))).trans c46).trans (((Chg.refl (fun k => k = b) w6).drew).trans c7)
  have hh7 := hz7.heap H1.out (by omega)
  have c07 : Chg (fun _ => False) w w7 := (c1.trans c2).new (((c3.trans (c4.mono (fun _ _ h => h.elim))).trans c46).trans (((Chg.refl (fun k => k = b) w6).drew).trans c7)) (fun k hk => by have := c1.size; omega)
  refine wpT.take 4 (v := .bool false) rfl (by kernel_rfl) (fun _ _ _ h => h) rfl (fun w' hw' => by
    go_simp
    have hs := HS.out
    unfold stampsAlike at hs
    rw [← HT.out, ← HP.out, ← HT2.out, ← HP2.out] at hs
    obtain ⟨rfl, rfl⟩ := hs
    simp) ?_
  simp only [Act.put, List.setIfInBounds_toArray, List.set_cons_zero, List.set_cons_succ]
  refine wpT.done (by kernel_rfl) ?_
  have k8 := (Chg.refl (fun k => k = b) w6).drew.trans c7
  have hh8 := k8.heap HH6.out hne
  have p0 : w7.cell? ⟨w3.heap.size, 0, none⟩ = some (.int .u32 T) := by rw [cell_of_heap hh8]; rfl
  have p1 : w7.cell? ⟨w3.heap.size, 1, none⟩ = some (.int .u32 P) := by rw [cell_of_heap hh8]; rfl
  have p2 : w7.cell? ⟨w3.heap.size, 2, none⟩ = some (.bool false) := by rw [cell_of_heap hh8]; rfl
  have p3 : w7.cell? ⟨w3.heap.size, 3, none⟩ = some (.slice none 0 0) := by rw [cell_of_heap hh8]; rfl
  have pf : ∀ i, w7.frozen? ⟨w3.heap.size, i, none⟩ = false := frozen_of_heap hh8
  have HH8 := Lib.hid hh8
  obtain ⟨L, hL1⟩ : ∃ L, L = decide (128 ≤ n) := ⟨_, rfl⟩
  have hand : (bits .and .i64 (n : Int) 128 != 0) = L := by
    rw [and_last n hn8, hL1]
    by_cases h : 128 ≤ n <;> simp [h]
  have HL1 := Lib.hid hL1
  obtain ⟨m, hm⟩ : ∃ m, m = n % 128 := ⟨_, rfl⟩
  have hrest : bits .and .i64 (n : Int) 127 = (m : Int) := by rw [and_rest n hn8, hm]
  have HM := Lib.hid hm
  have hc := HCR.out
  unfold cleanRest at hc
  rw [← HT.out, ← HN.out, ← HM.out, show 9 = 8 + 1 from rfl, ← HDD.out] at hc
  obtain ⟨hT0, hm47, hzr⟩ := hc
  have e0 : ((T : Int) == 0) = false := by simp; omega
  have g0 : ¬ (47 : Int) < m := by omega
  have HZR := Lib.hid hzr
  have k7 : Chg (fun k => k = b) w6 w7 := k8
  have hfd : ∀ k, (Value.slice da 47 dc).ownBlock = some k → ¬ (k = b ∨ k = w3.heap.size) := fun k hk => by
    have h1 := f6 k hk
    have h2 := c5.size
    have h3 := (Array.getElem?_eq_some_iff.1 H4.out).1
    have h4 : b < w2.heap.size := by obtain ⟨_, _, _, _, _, h, _⟩ := H6.out; exact h.2
    omega
  have hd7 : OB w7 (.slice da 47 dc) D := D6.out.kept k7 (fun k hk h => hfd k hk (.inl h))
  have hd8 : OB (w7.setCell ⟨w3.heap.size, 2, none⟩ (.bool L)) (.slice da 47 dc) D := hd7.kept ((Chg.refl (fun k => k = w3.heap.size) w7).setCell (p := ⟨w3.heap.size, 2, none⟩) (fun _ => rfl) _) (fun k hk h => hfd k hk (.inr h))
  have hcap : 47 ≤ dc := by have := D6.out.rb.cap_ge.2; rw [HDL.out] at this; exact this
  have hpc : RB (w7.setCell ⟨w3.heap.size, 2, none⟩ (.bool L)) (.slice (if dc = m then da else da.map (·.add (m * 1))) (47 - m) (dc - m)) (D.drop m) := by
    have h8 : RB (w7.setCell ⟨w3.heap.size, 2, none⟩ (.bool L)) (.slice da D.length dc) D := by rw [HDL.out]; exact hd8.rb
    have := h8.piece (lo := m) (hi := D.length) (m := dc) (by rw [HDL.out]; exact hm47) (Nat.le_refl _) (by rw [HDL.out]; exact hcap) (Nat.le_refl _)
    rw [List.take_of_length_le (by simp), HDL.out] at this
    exact this
  have hsl := fun w => slice_lo w da 47 dc m hm47
  have hcut := fun w => slice_cut w da 47 dc m (by omega)
  have hfr : OB (w7.setCell ⟨w3.heap.size, 2, none⟩ (.bool L)) (.slice da m m) (D.take m) := by
    refine OB.mk (n := m) ?_ (by simp; rw [HDL.out]; omega)
    have h8 : Owns (w7.setCell ⟨w3.heap.size, 2, none⟩ (.bool L)) 1 (.slice da 47 dc) 47 (bs D) := by have := hd8; unfold OB at this; rw [HDL.out] at this; exact this
    have := Owns.front h8 (hi := m) (m := m) hm47 (Nat.le_refl _) (by omega)
    rw [Nat.mul_one] at this
    simpa [bs, List.map_take] using this
  have HFR := Lib.hid hfr
  have HFD := Lib.hid hfd
  generalize hpv : (Value.slice (if dc = m then da else da.map (·.add (m * 1))) (47 - m) (dc - m)) = pv at hsl hpc
  have HPC := Lib.hid hpc
  have HZ := Lib.hid (zero_any pv _ _ hpc (by simp; rw [HDL.out]; omega))
  rw [decide_eq_true HZR.out] at HZ
  have q0 : w7.cell? ⟨w.heap.size, 0, none⟩ = some (.int .u32 0) := by rw [cell_of_heap hh7]; rfl
  have q1 : w7.cell? ⟨w.heap.size, 1, none⟩ = some (.int .u32 0) := by rw [cell_of_heap hh7]; rfl
  have q2 : w7.cell? ⟨w.heap.size, 2, none⟩ = some (.bool false) := by rw [cell_of_heap hh7]; rfl
  have q3 : w7.cell? ⟨w.heap.size, 3, none⟩ = some (.slice none 0 0) := by rw [cell_of_heap hh7]; rfl
  have qf : ∀ i, w7.frozen? ⟨w.heap.size, i, none⟩ = false := frozen_of_heap hh7
  have HH7 := Lib.hid hh7
  have hnn : ¬ w.heap.size = w3.heap.size := by omega
  have hnm : ¬ w3.heap.size = w.heap.size := by omega
  clear hL hh7 hd7 hd8 hpc hpv hfr hfd hh8 hL1 hm hzr
  go_wp2_with (first | (go_at_call 133; refine HZ.out.mono ?_; rintro e w8 ⟨rfl, rfl⟩))
  obtain ⟨W8, hW8⟩ : ∃ W8, W8 = w7.setCell ⟨w3.heap.size, 2, none⟩ (.bool L) := ⟨_, rfl⟩
  have c8 : Chg (fun k => k = w3.heap.size) w7 W8 := by rw [hW8]; exact (Chg.refl (fun k => k = w3.heap.size) w7).setCell (p := ⟨w3.heap.size, 2, none⟩) (fun _ => rfl) _
  have hf8 := HFR.out
  rw [← hW8] at hf8 ⊢
  obtain ⟨W9, hW9⟩ : ∃ W9, W9 = W8.setCell ⟨w3.heap.size, 3, none⟩ (.slice da m m) := ⟨_, rfl⟩
  have c9 : Chg (fun k => k = w3.heap.size) W8 W9 := by rw [hW9]; exact (Chg.refl (fun k => k = w3.heap.size) W8).setCell (p := ⟨w3.heap.size, 3, none⟩) (fun _ => rfl) _
  rw [← hW9]
  have hh9 := (c8.trans c9).heap HH7.out hnn
  obtain ⟨g1, g2⟩ := set4 (.int .u32 T) (.int .u32 P) (.bool L) (.slice da m m) hh9 rfl
  have hob : ∀ k, (Value.slice da m m).ownBlock = some k → w.heap.size < k ∧ ¬ k = w3.heap.size := fun k hk => by
    have hk' : (Value.slice da 47 dc).ownBlock = some k := by cases da <;> exact hk
    have h1 := HFD.out k hk'
    have h2 := f6 k hk'
    have h3 := (Array.getElem?_eq_some_iff.1 H4.out).1
    have h4 := c5.size
    have h5 := c1.size
    omega
  refine bodyPost_ret (v := .tuple #[.agg #[.int .u32 T, .int .u32 P, .bool L, .slice da m m], .int .i64 0]) (results_row_tmp (fn := Try.f115) (p := 2) (u := 3) (ty := 138) rfl _ _ w.heap.size _ _ (0, 0) _ rfl g1 Try.underlying138 rfl (by kernel_rfl)) rfl
    ⟨.slice da m m, ?_, ?_, fun k hk => by have := hob k hk; omega, (c07.new (c8.trans c9) (fun k hk => by omega)).new g2 (fun k hk => by omega)⟩
  · rw [← HT.out, ← HP.out, ← HN.out, ← HL1.out]
  · rw [← HN.out, ← HM.out, show 9 = 8 + 1 from rfl, ← HDD.out]
    exact (hf8.kept c9 (fun k hk h => (hob k hk).2 h)).kept g2 (fun k hk h => by have := (hob k hk).1; omega)
set_option maxRecDepth 100000 in
set_option maxHeartbeats 1000000 in
theorem turn_ok (v : Value) (w : World) (l : List UInt8) (hv : RB w v l) (hl : l.length = 64) (hz : ¬ ∀ x ∈ l, x = 0) (hs : stampsAlike l) (hc : cleanRest l) :
    Calls Try.prog 113 #[v] w fun e w' => e = .returned (.int .u32 (ofBe (l.take 4))) ∧ Chg (fun _ => False) w w' := by
  have HU := Lib.hid (unpack_ok v w l hv hl hz hs hc)
  obtain ⟨T, hT⟩ : ∃ T, T = ofBe (l.take 4) := ⟨_, rfl⟩
  rw [← hT] at HU ⊢
  generalize ofBe ((l.drop 4).take 4) = P at HU
  generalize decide (128 ≤ ofBe ((l.drop 8).take 1)) = L at HU
  clear hv hl hz hs hc hT
  go_enter Try.func113, Try.ntmps113
  go_wp2_with fail
  refine HU.out.mono ?_
  rintro e w1 ⟨dv, rfl, h1, f1, c1⟩
  obtain ⟨da, dc, rfl⟩ := h1.form
  clear h1
  go_wp2_with fail
  go_ret
  exact ⟨rfl, c1.alloc _⟩
end Go.Proofs.Ytjhkhdockiocgaa
