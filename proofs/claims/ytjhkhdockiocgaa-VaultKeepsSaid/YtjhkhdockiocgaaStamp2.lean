/- Contracts of package stamp: put, get, Pack. -/
import Derived.Test.YtjhkhdockiocgaaReader
import Derived.Test.YtjhkhdockiocgaaArr
namespace Go.Proofs.Ytjhkhdockiocgaa
open Go.RowKit Go.Cat

theorem ext_lt {S : Nat → Prop} {w w' : World} (hS : ∀ k, S k → k < w.heap.size) (h : w.heap.size ≤ w'.heap.size) : ∀ k, ext S w w' k → k < w'.heap.size := fun k hk => by
  rcases hk with h1 | h1
  · have := hS k h1; omega
  · exact h1.2
theorem ext_widen {S : Nat → Prop} {w w1 w2 : World} (h : w.heap.size ≤ w1.heap.size) {k : Nat} (hk : ext S w1 w2 k) : ext S w w2 k := by
  rcases hk with h1 | h1
  · exact .inl h1
  · exact .inr ⟨by omega, h1.2⟩
set_option maxRecDepth 100000 in
set_option maxHeartbeats 1000000 in
theorem put_any (turn place : Nat) (w : World) (S : Nat → Prop) (b : Nat) (l : List UInt8) (ht : turn < 4294967296) (hp : place < 4294967296) (hw : WriterAt w S b l) (hS : ∀ k, S k → k < w.heap.size) (hl : l.length ≤ 1000000) :
    Calls Try.prog 110 #[.pointer (some ⟨b, 0, none⟩), .agg #[.int .u32 turn, .int .u32 place]] w fun e w' => e = .returned (.tuple #[]) ∧ WriterAt w' (ext S w w') b (l ++ be turn 4 ++ be place 4) ∧ Chg S w w' := by
  have H := Lib.hid hw
  have hw1 : WriterAt (w.alloc (.cells #[.int .u32 turn, .int .u32 place] 136)) S b l := hw.alloc _
  have H1 := Lib.hid hw1
  have c0 : Chg S w (w.alloc (.cells #[.int .u32 turn, .int .u32 place] 136)) := (Chg.refl S w).alloc _
  have hnS : ¬ S w.heap.size := fun h => by have := hS _ h; omega
  clear hw hw1
  go_enter Try.func110, Try.ntmps110
  go_wp2_with fail
  refine (num_yes turn 4 _ S b l (by omega) (by omega) (by omega) (by simp; omega) H1.out (by omega)).mono ?_
  rintro e w2 ⟨rfl, h2, c2⟩
  have H2 := Lib.hid h2
  clear h2
  have q1 : w2.cell? ⟨w.heap.size, 1, none⟩ = some (.int .u32 place) := c2.cell (by rw [cell_of_heap (heap_at_new _ _ _ rfl)]; rfl) hnS
  have z2 := c2.size
  simp only [World.size_alloc] at z2
  go_wp2_with fail
  refine (num_yes place 4 _ _ b _ (by omega) (by omega) (by omega) (by simp; omega) H2.out (by simp; omega)).mono ?_
  rintro e w3 ⟨rfl, h3, c3⟩
  go_wp2_with fail
  go_end0
  have z3 := c3.size
  refine ⟨rfl, ?_, c0.trans (c2.trans_ext c3)⟩
  simp only [Int.toNat_natCast] at h3
  exact h3.mono (fun k hk => ext_widen (w := w) (by simp) (ext_ext (by simpa using z2) z3 hk))

/-- A writer that was made since w0; nothing older has turned. -/
def WUp (w0 w : World) (b : Nat) (l : List UInt8) : Prop := ∃ S, WriterAt w S b l ∧ (∀ k, S k → w0.heap.size ≤ k ∧ k < w.heap.size) ∧ Chg (fun _ => False) w0 w
theorem WUp.same {w0 w w' : World} {b : Nat} {l : List UInt8} (h : WUp w0 w b l) (c : Chg (fun _ => False) w w') : WUp w0 w' b l := by
  obtain ⟨S, h1, h2, h3⟩ := h
  have := c.size
  exact ⟨S, h1.kept c (fun _ _ hf => hf), fun k hk => ⟨(h2 k hk).1, by have := (h2 k hk).2; omega⟩, h3.trans c⟩
theorem WUp.step {w0 w w' : World} {b : Nat} {l : List UInt8} {S : Nat → Prop} (h2 : ∀ k, S k → w0.heap.size ≤ k ∧ k < w.heap.size) (h3 : Chg (fun _ => False) w0 w) (h : WriterAt w' (ext S w w') b l) (c : Chg S w w') : WUp w0 w' b l := by
  have z := c.size
  have z0 := h3.size
  refine ⟨_, h, fun k hk => ?_, h3.new c (fun k hk => (h2 k hk).1)⟩
  rcases hk with h1 | h1
  · have := h2 k h1; omega
  · omega
theorem WUp.chg {w0 w : World} {b : Nat} {l : List UInt8} (h : WUp w0 w b l) : Chg (fun _ => False) w0 w := by
  obtain ⟨_, _, _, h⟩ := h
  exact h
theorem wup_num (w0 w : World) (b : Nat) (l : List UInt8) (x n : Nat) (h : WUp w0 w b l) (h1 : x < 18446744073709551616) (hn : n = 1 ∨ n = 2 ∨ n = 4 ∨ n = 8) (hx : x < 2 ^ (8 * n)) (hl : l.length ≤ 1000000) :
    Calls Try.prog 65 #[.pointer (some ⟨b, 0, none⟩), .int .u64 x, .int .i64 n] w fun e w' => e = .returned (.int .i64 0) ∧ WUp w0 w' b (l ++ be x n) := by
  obtain ⟨S, h2, h3, h4⟩ := h
  refine (num_yes x n w S b l (by omega) (by omega) (by omega) (by simpa using hx) h2 (by omega)).mono ?_
  rintro e w' ⟨rfl, h5, h6⟩
  simp only [Int.toNat_natCast] at h5
  exact ⟨rfl, WUp.step h3 h4 h5 h6⟩
theorem wup_put (w0 w : World) (b : Nat) (l : List UInt8) (turn place : Nat) (h : WUp w0 w b l) (ht : turn < 4294967296) (hp : place < 4294967296) (hl : l.length ≤ 1000000) :
    Calls Try.prog 110 #[.pointer (some ⟨b, 0, none⟩), .agg #[.int .u32 turn, .int .u32 place]] w fun e w' => e = .returned (.tuple #[]) ∧ WUp w0 w' b (l ++ be turn 4 ++ be place 4) := by
  obtain ⟨S, h2, h3, h4⟩ := h
  refine (put_any turn place w S b l ht hp h2 (fun k hk => (h3 k hk).2) hl).mono ?_
  rintro e w' ⟨rfl, h5, h6⟩
  exact ⟨rfl, WUp.step h3 h4 h5 h6⟩
theorem wup_raw (w0 w : World) (b : Nat) (l m : List UInt8) (v : Value) (h : WUp w0 w b l) (hv : RB w v m) (hl : l.length + m.length ≤ 1000000) :
    Calls Try.prog 111 #[.pointer (some ⟨b, 0, none⟩), v] w fun e w' => e = .returned (.tuple #[]) ∧ WUp w0 w' b (l ++ m) := by
  obtain ⟨S, h2, h3, h4⟩ := h
  refine (wraw_any v w S b l m h2 hv (by omega)).mono ?_
  rintro e w' ⟨rfl, h5, h6⟩
  exact ⟨rfl, WUp.step h3 h4 h5 h6⟩
theorem wup_bytes (w0 w : World) (b : Nat) (l : List UInt8) (h : WUp w0 w b l) (hl : l.length ≤ 1000000) :
    Calls Try.prog 67 #[.pointer (some ⟨b, 0, none⟩)] w fun e w' => ∃ v', e = .returned v' ∧ OB w' v' l ∧ WUp w0 w' b l ∧ Fresh w v' := by
  obtain ⟨S, h2, h3, h4⟩ := h
  refine (wbytes_any w S b l h2 (by omega)).mono ?_
  rintro e w' ⟨v', rfl, h5, h6, h7⟩
  exact ⟨v', rfl, h5, WUp.same ⟨S, h2, h3, h4⟩ h6, h7⟩

set_option maxRecDepth 100000 in
theorem or_last (n : Nat) (h : n < 128) : bits .or .u64 (n : Int) 128 = (n : Int) + 128 := by
  have hA : n < 18446744073709551616 := by omega
  have h1 := (bits_nat .u64 64 (by decide) pow64 n 128 (Nat.lt_of_lt_of_eq hA p64.symm) (by decide)).2
  have h2 := Nat.two_pow_add_eq_or_of_lt (i := 7) (b := n) h 1
  rw [Nat.or_comm] at h2
  have h3 : n ||| 128 = 128 + n := h2.symm
  rw [h3] at h1
  have e : ((128 + n : Nat) : Int) = (n : Int) + 128 := by omega
  rw [e] at h1
  exact h1
/-- A sector's bytes. -/
def packOf (turn place : Nat) (last : Bool) (d : List UInt8) : List UInt8 :=
  [] ++ be turn 4 ++ be place 4 ++ be (d.length + if last then 128 else 0) 1 ++ d ++ zb (47 - d.length) ++ be turn 4 ++ be place 4

set_option maxRecDepth 100000 in
set_option maxHeartbeats 1000000 in
theorem pack_more (turn place : Nat) (dv : Value) (d : List UInt8) (w : World) (ht : turn < 4294967296) (hp : place < 4294967296) (h0 : turn ≠ 0) (hd : d.length ≤ 47) (hv : RB w dv d) :
    Calls Try.prog 78 #[.agg #[.int .u32 turn, .int .u32 place, .bool false, dv]] w fun e w' => ∃ v', e = .returned (.tuple #[v', .int .i64 0]) ∧ OB w' v' (packOf turn place false d) ∧ Chg (fun _ => False) w w' ∧ Fresh w v' := by
  obtain ⟨va, vc, rfl⟩ := hv.form
  have e0 : ((turn : Int) == 0) = false := by simp; omega
  have g1 : ¬ (47 : Int) < d.length := by omega
  obtain ⟨w0, hw0⟩ : ∃ w0, w0 = w.alloc (.cells #[.int .u32 turn, .int .u32 place, .bool false, .slice va d.length vc] 138) := ⟨_, rfl⟩
  have hb : w0.heap[w.heap.size]? = some (.cells #[.int .u32 turn, .int .u32 place, .bool false, .slice va d.length vc] 138 (0, 0)) := by rw [hw0]; exact heap_at_new _ _ _ rfl
  have c0 : Chg (fun _ => False) w w0 := by rw [hw0]; exact (Chg.refl _ w).alloc _
  have hz0 : w0.heap.size = w.heap.size + 1 := by rw [hw0]; simp
  have hw1 : WUp w0 (w0.alloc (.cells #[.slice none 0 0] 108)) (w.heap.size + 1) [] :=
    ⟨_, WriterAt.fresh_at w0 _ _ hz0, fun k hk => by subst hk; simp; omega, (Chg.refl _ w0).alloc _⟩
  have HB := Lib.hid hb
  have HV := Lib.hid hv
  have HW0 := Lib.hid hw0
  have HU := Lib.hid hw1
  have HZ := Lib.hid hz0
  clear hv hw0 hb hw1 hz0
  go_enter Try.func78, Try.ntmps78
  go_wp2_with fail
  rw [← HW0.out]
  refine (wup_put w0 _ _ [] turn place HU.out ht hp (by simp)).mono ?_
  rintro e w1 ⟨rfl, h1⟩
  have k1 := h1.chg
  have H1 := Lib.hid h1
  clear h1 HU
  have q0 := Chg.cell (p := ⟨w.heap.size, 0, none⟩) (v := .int .u32 turn) k1 (by rw [cell_of_heap HB.out]; rfl) (fun h => h)
  have q1 := Chg.cell (p := ⟨w.heap.size, 1, none⟩) (v := .int .u32 place) k1 (by rw [cell_of_heap HB.out]; rfl) (fun h => h)
  have q2 := Chg.cell (p := ⟨w.heap.size, 2, none⟩) (v := .bool false) k1 (by rw [cell_of_heap HB.out]; rfl) (fun h => h)
  have q3 := Chg.cell (p := ⟨w.heap.size, 3, none⟩) (v := .slice va d.length vc) k1 (by rw [cell_of_heap HB.out]; rfl) (fun h => h)
  go_wp2_with fail
  refine (wup_num w0 w1 _ _ d.length 1 H1.out (by omega) (by omega) (by simp; omega) (by simp)).mono ?_
  rintro e w2 ⟨rfl, h2⟩
  have k2 := h2.chg
  have H2 := Lib.hid h2
  clear h2 H1 q0 q1 q2 q3
  have q0 := Chg.cell (p := ⟨w.heap.size, 0, none⟩) (v := .int .u32 turn) k2 (by rw [cell_of_heap HB.out]; rfl) (fun h => h)
  have q1 := Chg.cell (p := ⟨w.heap.size, 1, none⟩) (v := .int .u32 place) k2 (by rw [cell_of_heap HB.out]; rfl) (fun h => h)
  have q2 := Chg.cell (p := ⟨w.heap.size, 2, none⟩) (v := .bool false) k2 (by rw [cell_of_heap HB.out]; rfl) (fun h => h)
  have q3 := Chg.cell (p := ⟨w.heap.size, 3, none⟩) (v := .slice va d.length vc) k2 (by rw [cell_of_heap HB.out]; rfl) (fun h => h)
  go_wp2_with fail
  refine (wup_raw w0 w2 _ _ d _ H2.out (HV.out.kept (c0.trans k2) (fun _ _ h => h)) (by simp; omega)).mono ?_
  rintro e w3 ⟨rfl, h3⟩
  have k3 := h3.chg
  have H3 := Lib.hid h3
  clear h3 H2 q0 q1 q2 q3
  have q0 := Chg.cell (p := ⟨w.heap.size, 0, none⟩) (v := .int .u32 turn) k3 (by rw [cell_of_heap HB.out]; rfl) (fun h => h)
  have q1 := Chg.cell (p := ⟨w.heap.size, 1, none⟩) (v := .int .u32 place) k3 (by rw [cell_of_heap HB.out]; rfl) (fun h => h)
  have q2 := Chg.cell (p := ⟨w.heap.size, 2, none⟩) (v := .bool false) k3 (by rw [cell_of_heap HB.out]; rfl) (fun h => h)
  have q3 := Chg.cell (p := ⟨w.heap.size, 3, none⟩) (v := .slice va d.length vc) k3 (by rw [cell_of_heap HB.out]; rfl) (fun h => h)
  have hmk := make_bytes w3 (47 - d.length) (by omega)
  rw [show ((47 - d.length : Nat) : Int) = 47 - (d.length : Int) by omega] at hmk
  obtain ⟨row, hrow⟩ : ∃ row, row = zeroRow (47 - d.length) := ⟨_, rfl⟩
  rw [← hrow] at hmk
  have HR := Lib.hid hrow
  clear hrow
  go_wp2_with fail
  refine (wup_raw w0 _ _ _ (zb (47 - d.length)) _ (H3.out.same ((Chg.refl _ w3).alloc _)) (by rw [HR.out]; exact (OB.made w3 _ _ (by simp only [maxLen]; omega)).rb) (by simp; omega)).mono ?_
  rintro e w4 ⟨rfl, h4⟩
  have k4 := h4.chg
  have H4 := Lib.hid h4
  clear h4 H3 q0 q1 q2 q3 hmk
  have q0 := Chg.cell (p := ⟨w.heap.size, 0, none⟩) (v := .int .u32 turn) k4 (by rw [cell_of_heap HB.out]; rfl) (fun h => h)
  have q1 := Chg.cell (p := ⟨w.heap.size, 1, none⟩) (v := .int .u32 place) k4 (by rw [cell_of_heap HB.out]; rfl) (fun h => h)
  have q2 := Chg.cell (p := ⟨w.heap.size, 2, none⟩) (v := .bool false) k4 (by rw [cell_of_heap HB.out]; rfl) (fun h => h)
  have q3 := Chg.cell (p := ⟨w.heap.size, 3, none⟩) (v := .slice va d.length vc) k4 (by rw [cell_of_heap HB.out]; rfl) (fun h => h)
  go_wp2_with fail
  refine (wup_put w0 w4 _ _ turn place H4.out ht hp (by simp; omega)).mono ?_
  rintro e w5 ⟨rfl, h5⟩
  have H5 := Lib.hid h5
  clear h5 H4 q0 q1 q2 q3
  go_wp2_with fail
  refine (wup_bytes w0 w5 _ _ H5.out (by simp; omega)).mono ?_
  rintro e w6 ⟨v6, rfl, h6, h7, h8⟩
  have k6 := h7.chg
  have k5 := H5.out.chg
  go_wp2_with fail
  go_ret2
  refine ⟨_, rfl, ?_, c0.trans k6, fun k hk => by have := h8 k hk; have := k5.size; have := c0.size; omega⟩
  simpa [packOf] using h6
set_option maxRecDepth 100000 in
set_option maxHeartbeats 1000000 in
theorem pack_last (turn place : Nat) (dv : Value) (d : List UInt8) (w : World) (ht : turn < 4294967296) (hp : place < 4294967296) (h0 : turn ≠ 0) (hd : d.length ≤ 47) (hv : RB w dv d) :
    Calls Try.prog 78 #[.agg #[.int .u32 turn, .int .u32 place, .bool true, dv]] w fun e w' => ∃ v', e = .returned (.tuple #[v', .int .i64 0]) ∧ OB w' v' (packOf turn place true d) ∧ Chg (fun _ => False) w w' ∧ Fresh w v' := by
  obtain ⟨va, vc, rfl⟩ := hv.form
  have e0 : ((turn : Int) == 0) = false := by simp; omega
  have g1 : ¬ (47 : Int) < d.length := by omega
  obtain ⟨w0, hw0⟩ : ∃ w0, w0 = w.alloc (.cells #[.int .u32 turn, .int .u32 place, .bool true, .slice va d.length vc] 138) := ⟨_, rfl⟩
  have hb : w0.heap[w.heap.size]? = some (.cells #[.int .u32 turn, .int .u32 place, .bool true, .slice va d.length vc] 138 (0, 0)) := by rw [hw0]; exact heap_at_new _ _ _ rfl
  have c0 : Chg (fun _ => False) w w0 := by rw [hw0]; exact (Chg.refl _ w).alloc _
  have hz0 : w0.heap.size = w.heap.size + 1 := by rw [hw0]; simp
  have hw1 : WUp w0 (w0.alloc (.cells #[.slice none 0 0] 108)) (w.heap.size + 1) [] :=
    ⟨_, WriterAt.fresh_at w0 _ _ hz0, fun k hk => by subst hk; simp; omega, (Chg.refl _ w0).alloc _⟩
  have HB := Lib.hid hb
  have HV := Lib.hid hv
  have HW0 := Lib.hid hw0
  have HU := Lib.hid hw1
  have HZ := Lib.hid hz0
  clear hv hw0 hb hw1 hz0
  go_enter Try.func78, Try.ntmps78
  go_wp2_with fail
  rw [← HW0.out]
  refine (wup_put w0 _ _ [] turn place HU.out ht hp (by simp)).mono ?_
  rintro e w1 ⟨rfl, h1⟩
  have k1 := h1.chg
  have H1 := Lib.hid h1
  clear h1 HU
  have q0 := Chg.cell (p := ⟨w.heap.size, 0, none⟩) (v := .int .u32 turn) k1 (by rw [cell_of_heap HB.out]; rfl) (fun h => h)
  have q1 := Chg.cell (p := ⟨w.heap.size, 1, none⟩) (v := .int .u32 place) k1 (by rw [cell_of_heap HB.out]; rfl) (fun h => h)
  have q2 := Chg.cell (p := ⟨w.heap.size, 2, none⟩) (v := .bool true) k1 (by rw [cell_of_heap HB.out]; rfl) (fun h => h)
  have q3 := Chg.cell (p := ⟨w.heap.size, 3, none⟩) (v := .slice va d.length vc) k1 (by rw [cell_of_heap HB.out]; rfl) (fun h => h)
  have hor : bits .or .u64 (d.length : Int) 128 = (d.length : Int) + 128 := or_last d.length (by omega)
  go_wp2_with fail
  refine (wup_num w0 w1 _ _ (d.length + 128) 1 H1.out (by omega) (by omega) (by simp; omega) (by simp)).mono ?_
  rintro e w2 ⟨rfl, h2⟩
  have k2 := h2.chg
  have H2 := Lib.hid h2
  clear h2 H1 q0 q1 q2 q3
  have q0 := Chg.cell (p := ⟨w.heap.size, 0, none⟩) (v := .int .u32 turn) k2 (by rw [cell_of_heap HB.out]; rfl) (fun h => h)
  have q1 := Chg.cell (p := ⟨w.heap.size, 1, none⟩) (v := .int .u32 place) k2 (by rw [cell_of_heap HB.out]; rfl) (fun h => h)
  have q2 := Chg.cell (p := ⟨w.heap.size, 2, none⟩) (v := .bool true) k2 (by rw [cell_of_heap HB.out]; rfl) (fun h => h)
  have q3 := Chg.cell (p := ⟨w.heap.size, 3, none⟩) (v := .slice va d.length vc) k2 (by rw [cell_of_heap HB.out]; rfl) (fun h => h)
  go_wp2_with fail
  refine (wup_raw w0 w2 _ _ d _ H2.out (HV.out.kept (c0.trans k2) (fun _ _ h => h)) (by simp; omega)).mono ?_
  rintro e w3 ⟨rfl, h3⟩
  have k3 := h3.chg
  have H3 := Lib.hid h3
  clear h3 H2 q0 q1 q2 q3
  have q0 := Chg.cell (p := ⟨w.heap.size, 0, none⟩) (v := .int .u32 turn) k3 (by rw [cell_of_heap HB.out]; rfl) (fun h => h)
  have q1 := Chg.cell (p := ⟨w.heap.size, 1, none⟩) (v := .int .u32 place) k3 (by rw [cell_of_heap HB.out]; rfl) (fun h => h)
  have q2 := Chg.cell (p := ⟨w.heap.size, 2, none⟩) (v := .bool true) k3 (by rw [cell_of_heap HB.out]; rfl) (fun h => h)
  have q3 := Chg.cell (p := ⟨w.heap.size, 3, none⟩) (v := .slice va d.length vc) k3 (by rw [cell_of_heap HB.out]; rfl) (fun h => h)
  have hmk := make_bytes w3 (47 - d.length) (by omega)
  rw [show ((47 - d.length : Nat) : Int) = 47 - (d.length : Int) by omega] at hmk
  obtain ⟨row, hrow⟩ : ∃ row, row = zeroRow (47 - d.length) := ⟨_, rfl⟩
  rw [← hrow] at hmk
  have HR := Lib.hid hrow
  clear hrow
  go_wp2_with fail
  refine (wup_raw w0 _ _ _ (zb (47 - d.length)) _ (H3.out.same ((Chg.refl _ w3).alloc _)) (by rw [HR.out]; exact (OB.made w3 _ _ (by simp only [maxLen]; omega)).rb) (by simp; omega)).mono ?_
  rintro e w4 ⟨rfl, h4⟩
  have k4 := h4.chg
  have H4 := Lib.hid h4
  clear h4 H3 q0 q1 q2 q3 hmk
  have q0 := Chg.cell (p := ⟨w.heap.size, 0, none⟩) (v := .int .u32 turn) k4 (by rw [cell_of_heap HB.out]; rfl) (fun h => h)
  have q1 := Chg.cell (p := ⟨w.heap.size, 1, none⟩) (v := .int .u32 place) k4 (by rw [cell_of_heap HB.out]; rfl) (fun h => h)
  have q2 := Chg.cell (p := ⟨w.heap.size, 2, none⟩) (v := .bool true) k4 (by rw [cell_of_heap HB.out]; rfl) (fun h => h)
  have q3 := Chg.cell (p := ⟨w.heap.size, 3, none⟩) (v := .slice va d.length vc) k4 (by rw [cell_of_heap HB.out]; rfl) (fun h => h)
  go_wp2_with fail
  refine (wup_put w0 w4 _ _ turn place H4.out ht hp (by simp; omega)).mono ?_
  rintro e w5 ⟨rfl, h5⟩
  have H5 := Lib.hid h5
  clear h5 H4 q0 q1 q2 q3
  go_wp2_with fail
  refine (wup_bytes w0 w5 _ _ H5.out (by simp; omega)).mono ?_
  rintro e w6 ⟨v6, rfl, h6, h7, h8⟩
  have k6 := h7.chg
  have k5 := H5.out.chg
  go_wp2_with fail
  go_ret2
  refine ⟨_, rfl, ?_, c0.trans k6, fun k hk => by have := h8 k hk; have := k5.size; have := c0.size; omega⟩
  simpa [packOf] using h6
end Go.Proofs.Ytjhkhdockiocgaa
