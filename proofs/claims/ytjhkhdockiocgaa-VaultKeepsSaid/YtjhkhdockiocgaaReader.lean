/- Contracts of octet.Reader. -/
import Derived.Test.YtjhkhdockiocgaaOctet
namespace Go.Proofs.Ytjhkhdockiocgaa
open Go.RowKit Go.Cat

theorem slice_lo (w : World) (a : Option Addr) (n c lo : Nat) (h1 : lo ≤ n) :
    (Instr.sliceAt 33 (.slice a n c) (some (.int .i64 lo)) none none).run Try.prog w = .ok (.slice (if c = lo then a else a.map (·.add (lo * 1))) (n - lo) (c - lo)) w := by
  have h4 : (lo : Int) ≤ n := by omega
  simp [go_sem, Instr.sliceAt, Instr.slice, Instr.sliceBounds, h4]

theorem rb_front {w : World} {a : Option Addr} {c : Nat} {l : List UInt8} (h : RB w (.slice a l.length c) l) (n : Nat) (hn : n ≤ l.length) : RB w (.slice a n c) (l.take n) := by
  have hlen : (l.take n).length = n := by simp; omega
  refine ⟨by simp, ?_⟩
  rw [hlen]
  rcases h.2 with ⟨hv, h0⟩ | ⟨g, o, c', hv, g1, g2, g3, g4⟩
  · simp only [Value.slice.injEq] at hv
    obtain ⟨rfl, _, rfl⟩ := hv
    obtain rfl : n = 0 := by omega
    exact .inl ⟨rfl, rfl⟩
  · simp only [Value.slice.injEq] at hv
    obtain ⟨rfl, _, rfl⟩ := hv
    refine .inr ⟨g, o, c, rfl, by omega, g2, g3, fun j u hj => g4 j u ?_⟩
    have hjl := (List.getElem?_eq_some_iff.1 hj).1
    rw [bs_length, hlen] at hjl
    rw [bs_get _ j (by omega)] at hj
    rw [bs_get _ j (by omega)]
    simpa using hj

set_option maxRecDepth 100000 in
theorem rerr_any (w : World) (S : Nat → Prop) (b : Nat) (l : List UInt8) (x : Int) (h : ReaderAt w S b l x) :
    Calls Try.prog 71 #[.pointer (some ⟨b, 0, none⟩)] w fun e w' => e = .returned (.int .i64 x) ∧ w = w' := by
  obtain ⟨bv, T, hb, _⟩ := h
  have hc := cell_of_heap hb 1
  simp only [List.getElem?_toArray, List.getElem?_cons_zero, List.getElem?_cons_succ] at hc
  clear hb
  go_enter Try.func71, Try.ntmps71
  go_wp2_with fail
  go_ret
  exact ⟨rfl, rfl⟩

set_option maxRecDepth 100000 in
theorem rfail_first (w : World) (S : Nat → Prop) (b : Nat) (l : List UInt8) (x : Int) (h : ReaderAt w S b l 0) :
    Calls Try.prog 106 #[.pointer (some ⟨b, 0, none⟩), .int .i64 x] w fun e w' => e = .returned (.tuple #[]) ∧ ReaderAt w' S b [] x ∧ Chg (fun k => k = b) w w' := by
  have H := Lib.hid h
  obtain ⟨bv, T, hb, hrb, hne, hS, hSv⟩ := h
  have hc0 := cell_of_heap hb 0
  have hc1 := cell_of_heap hb 1
  have hf := frozen_of_heap hb
  simp only [List.getElem?_toArray, List.getElem?_cons_zero, List.getElem?_cons_succ] at hc0 hc1
  obtain ⟨va, vc, rfl⟩ := hrb.form
  have HB := Lib.hid hb
  clear hb hrb
  go_enter Try.func106, Try.ntmps106
  go_wp2_with (first | (go_at_call 71; refine (rerr_any w S b l 0 H.out).mono ?_; rintro e w1 ⟨rfl, rfl⟩))
  go_end0
  have hc : Chg (fun k => k = b) w ((w.setCell ⟨b, 1, none⟩ (.int .i64 x)).setCell ⟨b, 0, none⟩ (.slice none 0 0)) := ((Chg.refl (fun k => k = b) w).setCell (p := ⟨b, 1, none⟩) (fun _ => rfl) _).setCell (p := ⟨b, 0, none⟩) (fun _ => rfl) _
  exact ⟨rfl, ⟨.slice none 0 0, T, Cat.heap_setCell_same (Cat.heap_setCell_same HB.out 1 _) 0 _, RB.nil _, by simp [Value.ownBlock], hS, by simp [Value.ownBlock]⟩, hc⟩

set_option maxRecDepth 100000 in
theorem rfail_later (w : World) (S : Nat → Prop) (b : Nat) (l : List UInt8) (x y : Int) (h : ReaderAt w S b l y) (hy : y ≠ 0) :
    Calls Try.prog 106 #[.pointer (some ⟨b, 0, none⟩), .int .i64 x] w fun e w' => e = .returned (.tuple #[]) ∧ w = w' := by
  have H := Lib.hid h
  have e0 : (y == 0) = false := by simpa using hy
  clear h hy
  go_enter Try.func106, Try.ntmps106
  go_wp2_with (first | (go_at_call 71; refine (rerr_any w S b l y H.out).mono ?_; rintro e w1 ⟨rfl, rfl⟩))
  go_end0
  exact ⟨rfl, rfl⟩

set_option maxRecDepth 100000 in
theorem rread_any (w : World) (v : Value) (l : List UInt8) (hv : RB w v l) (hl : l.length ≤ 140737488355328) :
    Calls Try.prog 69 #[v] w fun e w' => ∃ b, e = .returned (.pointer (some ⟨b, 0, none⟩)) ∧ ReaderAt w' (fun k => w.heap.size ≤ k) b l 0 ∧ Chg (fun _ => False) w w' := by
  go_enter Try.func69, Try.ntmps69
  go_wp2_with (first | (go_at_call 105; refine (clone_any _ _ l hv hl).mono ?_; rintro e w1 ⟨v', rfl, h1, h2, h3⟩; obtain ⟨va, vc, rfl⟩ := h1.form))
  go_ret
  have z := h2.size
  refine ⟨_, rfl, ⟨_, _, heap_alloc_new _ _, (h1.alloc _).rb, fun hk => ?_, by simpa using z, fun k hk => ?_⟩, h2.alloc _⟩
  · have := h1.lt _ hk; omega
  · exact h3 k hk

set_option maxRecDepth 100000 in
set_option maxHeartbeats 1000000 in
theorem rraw_ok (w : World) (S : Nat → Prop) (b : Nat) (l : List UInt8) (n : Nat) (h : ReaderAt w S b l 0) (hn : n ≤ l.length) (hl : l.length ≤ 140737488355328) :
    Calls Try.prog 107 #[.pointer (some ⟨b, 0, none⟩), .int .i64 n] w fun e w' => ∃ v, e = .returned v ∧ OB w' v (l.take n) ∧ Fresh w v ∧ ReaderAt w' S b (l.drop n) 0 ∧ Chg (fun k => k = b) w w' := by
  have H := Lib.hid h
  obtain ⟨bv, T, hb, hrb, hne, hS, hSv⟩ := h
  have hc0 := cell_of_heap hb 0
  have hf := frozen_of_heap hb 0
  simp only [List.getElem?_toArray, List.getElem?_cons_zero] at hc0
  obtain ⟨va, vc, rfl⟩ := hrb.form
  have hcap := hrb.cap_ge.2
  have hbl : b < w.heap.size := (Array.getElem?_eq_some_iff.1 hb).1
  have h1 : ¬ (n : Int) < 0 := by omega
  have h2 : ¬ (l.length : Int) < n := by omega
  have h3 : (n : Int) ≤ vc := by omega
  have hfront : RB w (.slice va n vc) (l.take n) := rb_front hrb n hn
  have hpc := hrb.piece (lo := n) (hi := l.length) (m := vc) hn (Nat.le_refl _) hcap (Nat.le_refl _)
  have hsl := fun w => slice_lo w va l.length vc n hn
  rw [List.take_of_length_le (by simp)] at hpc
  generalize hpv : (Value.slice (if vc = n then va else va.map (·.add (n * 1))) (l.length - n) (vc - n)) = pv at hsl hpc
  have HB := Lib.hid hb
  have HF := Lib.hid hfront
  have HP := Lib.hid hpc
  have HRB := Lib.hid hrb
  clear hb hrb hfront hpc
  obtain ⟨pa, pc, rfl⟩ : ∃ a c, pv = .slice a (l.length - n) c := by
    obtain ⟨a, c, h⟩ := HP.out.form
    rw [List.length_drop] at h
    exact ⟨a, c, h⟩
  have hpb : ∀ k, (Value.slice pa (l.length - n) pc).ownBlock = some k → (Value.slice va l.length vc).ownBlock = some k := by
    intro k hk
    rw [← hpv] at hk
    split at hk
    · cases va with
      | none => simp [Value.ownBlock] at hk
      | some a => simpa [Value.ownBlock] using hk
    · cases va with
      | none => simp [Value.ownBlock] at hk
      | some a =>
        simp [Value.ownBlock, Addr.add] at hk ⊢
        split at hk <;> exact hk
  have HPB := Lib.hid hpb
  clear hpv hpb
  go_enter Try.func107, Try.ntmps107
  go_wp2_with (first | (go_at_call 71; refine (rerr_any w S b l 0 H.out).mono ?_; rintro e w1 ⟨rfl, rfl⟩) | (go_at_call 105; refine (clone_any _ w (l.take n) HF.out (by rw [List.length_take]; omega)).mono ?_; rintro e w2 ⟨v', rfl, k1, k2, k3⟩; have hc2 := k2.cell hc0 (fun h => h); have hf2 := k2.frozen (i := 0) HB.out (fun h => h); clear hc0 hf))
  go_ret
  have z := k2.size
  have c4 : Chg (fun k => k = b) w2 (w2.setCell ⟨b, 0, none⟩ (.slice pa (l.length - n) pc)) := (Chg.refl (fun k => k = b) w2).setCell (p := ⟨b, 0, none⟩) (fun _ => rfl) _
  refine ⟨_, rfl, k1.kept c4 (fun k hk => by have := k3 k hk; omega), k3, ⟨_, T, Cat.heap_setCell_same (k2.heap HB.out (fun h => h)) 0 _, (HP.out.kept k2 (fun _ _ h => h)).kept c4 (fun k hk h => hne (by rw [← h]; exact HPB.out k hk)), fun h => hne (HPB.out b h), hS, fun k hk => hSv k (HPB.out k hk)⟩, ?_⟩
  exact (k2.mono (fun _ _ h => h.elim)).trans c4

set_option maxRecDepth 100000 in
set_option maxHeartbeats 1000000 in
theorem rraw_short (w : World) (S : Nat → Prop) (b : Nat) (l : List UInt8) (n : Nat) (h : ReaderAt w S b l 0) (hn : l.length < n) :
    Calls Try.prog 107 #[.pointer (some ⟨b, 0, none⟩), .int .i64 n] w fun e w' => e = .returned (.slice none 0 0) ∧ ReaderAt w' S b [] 4 ∧ Chg (fun k => k = b) w w' := by
  have H := Lib.hid h
  obtain ⟨bv, T, hb, hrb, hne, hS, hSv⟩ := h
  have hc0 := cell_of_heap hb 0
  simp only [List.getElem?_toArray, List.getElem?_cons_zero] at hc0
  obtain ⟨va, vc, rfl⟩ := hrb.form
  have h1 : ¬ (n : Int) < 0 := by omega
  have h2 : (l.length : Int) < n := by omega
  clear hb hrb hn
  go_enter Try.func107, Try.ntmps107
  go_wp2_with (first | (go_at_call 71; refine (rerr_any w S b l 0 H.out).mono ?_; rintro e w1 ⟨rfl, rfl⟩) | (go_at_call 106; refine (rfail_first w S b l 4 H.out).mono ?_; rintro e w2 ⟨rfl, k1, k2⟩))
  go_ret
  exact ⟨rfl, k1, k2⟩

set_option maxRecDepth 100000 in
set_option maxHeartbeats 1000000 in
theorem rraw_late (w : World) (S : Nat → Prop) (b : Nat) (l : List UInt8) (n y : Int) (h : ReaderAt w S b l y) (hy : y ≠ 0) :
    Calls Try.prog 107 #[.pointer (some ⟨b, 0, none⟩), .int .i64 n] w fun e w' => e = .returned (.slice none 0 0) ∧ w = w' := by
  have H := Lib.hid h
  have e0 : (y == 0) = false := by simpa using hy
  have e1 : (y != 0) = true := by simpa using hy
  clear h hy
  go_enter Try.func107, Try.ntmps107
  go_wp2_with (first | (go_at_call 71; refine (rerr_any w S b l y H.out).mono ?_; rintro e w1 ⟨rfl, rfl⟩))
  go_ret
  exact ⟨rfl, rfl⟩

/-- A number out of its bytes, the greatest one first. -/
def ofBe (l : List UInt8) : Nat := l.foldl (fun a b => a * 256 + b.toNat) 0
theorem ofBe_snoc (l : List UInt8) (b : UInt8) : ofBe (l ++ [b]) = ofBe l * 256 + b.toNat := by simp [ofBe]
theorem foldBe_lt : ∀ (l : List UInt8) (a : Nat), l.foldl (fun a b => a * 256 + b.toNat) a < (a + 1) * 256 ^ l.length
  | [], a => by simp
  | b :: l, a => by
    have ih := foldBe_lt l (a * 256 + b.toNat)
    have hb := b.toNat_lt
    have : (a * 256 + b.toNat + 1) * 256 ^ l.length ≤ ((a + 1) * 256) * 256 ^ l.length := Nat.mul_le_mul_right _ (by omega)
    rw [List.foldl_cons, List.length_cons, Nat.pow_succ, Nat.mul_comm (256 ^ l.length) 256, ← Nat.mul_assoc]
    omega
theorem ofBe_lt (l : List UInt8) : ofBe l < 256 ^ l.length := by
  have := foldBe_lt l 0
  simpa [ofBe] using this

set_option maxRecDepth 100000 in
theorem wrap_u64_lt (n : Int) (h0 : 0 ≤ n) (h1 : n < 18446744073709551616) : IntKind.u64.wrap n = n := by rw [IntKind.wrap_u64]; omega
theorem p64 : (2 : Nat) ^ 64 = 18446744073709551616 := by decide
theorem pow64 (n : Int) (h0 : 0 ≤ n) (h1 : n < 2 ^ 64) : IntKind.u64.wrap n = n := wrap_u64_lt n h0 (by
  have q : (2 : Int) ^ 64 = 18446744073709551616 := by decide
  rw [← q]; exact h1)
set_option maxRecDepth 100000 in
theorem or_byte (x y : Nat) (hx : x * 256 + y < 18446744073709551616) (hy : y < 256) : bits .or .u64 (IntKind.u64.wrap ((x : Int) * 256)) (IntKind.u64.wrap (y : Int)) = ((x * 256 + y : Nat) : Int) := by
  have hA' : x * 256 < 18446744073709551616 := by omega
  have hB' : y < 18446744073709551616 := by omega
  have hC : (0 : Int) ≤ (x : Int) * 256 := by omega
  have hD : (x : Int) * 256 < 18446744073709551616 := by omega
  have h := (bits_nat .u64 64 (by decide) pow64 (x * 256) y (Nat.lt_of_lt_of_eq hA' p64.symm) (Nat.lt_of_lt_of_eq hB' p64.symm)).2
  have e : ((x * 256 : Nat) : Int) = (x : Int) * 256 := by simp
  rw [e] at h
  rw [wrap_u64_lt _ hC hD, wrap_u64_lt _ (by omega) (by omega), h]
  have := Nat.two_pow_add_eq_or_of_lt (i := 8) (b := y) (by omega) x
  rw [show x * 256 = 2 ^ 8 * x by omega, ← this]

set_option maxRecDepth 100000 in
set_option maxHeartbeats 1000000 in
theorem rnum_ok (w : World) (S : Nat → Prop) (b : Nat) (l : List UInt8) (n : Nat) (h : ReaderAt w S b l 0) (hw : n = 1 ∨ n = 2 ∨ n = 4 ∨ n = 8) (hn : n ≤ l.length) (hl : l.length ≤ 140737488355328) :
    Calls Try.prog 70 #[.pointer (some ⟨b, 0, none⟩), .int .i64 n] w fun e w' => e = .returned (.int .u64 (ofBe (l.take n))) ∧ ReaderAt w' S b (l.drop n) 0 ∧ Chg (fun k => k = b) w w' := by
  have H := Lib.hid h
  have HW : Hid ((n : Int) = 1 ∨ (n : Int) = 2 ∨ (n : Int) = 4 ∨ (n : Int) = 8) := by show _ ∨ _; omega
  have hn8 : n ≤ 8 := by omega
  obtain ⟨m, hm⟩ : ∃ m, m = l.take n := ⟨_, rfl⟩
  rw [← hm]
  have HM := Lib.hid hm
  clear h hw hm
  go_enter Try.func70, Try.ntmps70
  go_wp2_with (first | (go_at_call 98; refine (width_yes _ _ HW.out).mono ?_; rintro e w' ⟨rfl, rfl⟩))
  refine (rraw_ok w S b l n H.out hn hl).mono ?_
  rintro e w2 ⟨v, rfl, hv, hf, hr, hc⟩
  have hml : m.length = n := by rw [HM.out]; simp; omega
  rw [← HM.out] at hv
  obtain ⟨a, c, rfl⟩ := hv.form
  have HML := Lib.hid hml
  have HV := Lib.hid hv
  clear hml hv
  go_wp2_with fail
  go_loopw [5, 7, 17] (fun x _ i wr => ∃ k : Nat, k ≤ m.length ∧ i = .int .i64 k ∧ x = .int .u64 (ofBe (m.take k)) ∧ wr = w2) (fun _ _ i _ => m.length - (intOf i).toNat)
  case atStart =>
    exact ⟨0, by omega, rfl, by simp [ofBe], rfl⟩
  case round =>
    obtain ⟨k, hk, rfl, rfl, rfl⟩ := hrel
    by_cases hlt : k < m.length
    · obtain ⟨y, hy⟩ : ∃ y, m[k]? = some y := ⟨_, List.getElem?_eq_getElem hlt⟩
      obtain ⟨g, o, rfl⟩ : ∃ g o, a = some ⟨g, o, none⟩ := by
        rcases HV.out.2 with ⟨hv, h0⟩ | ⟨g, o, c', hv, _⟩
        · omega
        · simp only [Value.slice.injEq] at hv; exact ⟨g, o, hv.1⟩
      have hcell : wr.cell? ⟨g, o + k, none⟩ = some (.int .u8 y.toNat) := by
        rcases HV.out.2 with ⟨hv, h0⟩ | ⟨g', o', c', hv, _, _, _, h4, _⟩
        · simp at hv
        · simp only [Value.slice.injEq, Option.some.injEq, Addr.mk.injEq, true_and, and_true] at hv
          obtain ⟨⟨rfl, rfl⟩, rfl⟩ := hv
          exact h4 k _ (by rw [bs_get _ k hlt]; rw [List.getElem?_eq_getElem hlt] at hy; cases hy; rfl)
      have hstep : ofBe (m.take (k + 1)) = ofBe (m.take k) * 256 + y.toNat := by rw [List.take_add_one, hy, Option.toList_some, ofBe_snoc]
      have HY := Lib.hid hy
      have hor : bits .or .u64 (IntKind.u64.wrap ((ofBe (m.take k) : Int) * 256)) (IntKind.u64.wrap (y.toNat : Int)) = (ofBe (m.take (k + 1)) : Int) := by
        rw [hstep]
        have h1 := ofBe_lt (m.take k)
        have h2 : (m.take k).length = k := by simp; omega
        have h3 : (256 : Nat) ^ (m.take k).length ≤ 256 ^ 7 := Nat.pow_le_pow_right (by omega) (by have := HML.out; omega)
        have h4 := y.toNat_lt
        have h5 : (256 : Nat) ^ 7 = 72057594037927936 := by decide
        rw [h5] at h3
        exact or_byte _ _ (by omega) h4
      have hm8 : m.length ≤ 8 := by rw [HML.out]; exact hn8
      have hw1 : wrap64 ((k : Int) + 1) = (k : Int) + 1 := by
        unfold wrap64; omega
      clear hy hstep
      go_wp2_with fail
      exact ⟨⟨k + 1, by omega, rfl, rfl, trivial⟩, by simp only [intOf]; omega⟩
    · obtain rfl : k = m.length := by omega
      go_wp2_with fail
      go_ret
      rw [List.take_length]
      exact ⟨rfl, hr, hc⟩

set_option maxRecDepth 100000 in
set_option maxHeartbeats 1000000 in
theorem rnum_short (w : World) (S : Nat → Prop) (b : Nat) (l : List UInt8) (n : Nat) (h : ReaderAt w S b l 0) (hw : n = 1 ∨ n = 2 ∨ n = 4 ∨ n = 8) (hn : l.length < n) :
    Calls Try.prog 70 #[.pointer (some ⟨b, 0, none⟩), .int .i64 n] w fun e w' => e = .returned (.int .u64 0) ∧ ReaderAt w' S b [] 4 ∧ Chg (fun k => k = b) w w' := by
  have H := Lib.hid h
  have HW : Hid ((n : Int) = 1 ∨ (n : Int) = 2 ∨ (n : Int) = 4 ∨ (n : Int) = 8) := by show _ ∨ _; omega
  clear h hw
  go_enter Try.func70, Try.ntmps70
  go_wp2_with (first | (go_at_call 98; refine (width_yes _ _ HW.out).mono ?_; rintro e w' ⟨rfl, rfl⟩))
  refine (rraw_short w S b l n H.out hn).mono ?_
  rintro e w2 ⟨rfl, hr, hc⟩
  go_wp2_with fail
  go_loopw [5, 7, 17] (fun x _ i wr => i = .int .i64 0 ∧ x = .int .u64 0 ∧ wr = w2) (fun _ _ _ _ => 0)
  case atStart =>
    exact ⟨rfl, rfl, rfl⟩
  case round =>
    obtain ⟨rfl, rfl, rfl⟩ := hrel
    go_wp2_with fail
    go_ret
    exact ⟨rfl, hr, hc⟩

set_option maxRecDepth 100000 in
set_option maxHeartbeats 1000000 in
theorem rnum_late (w : World) (S : Nat → Prop) (b : Nat) (l : List UInt8) (n : Nat) (y : Int) (h : ReaderAt w S b l y) (hy : y ≠ 0) (hw : n = 1 ∨ n = 2 ∨ n = 4 ∨ n = 8) :
    Calls Try.prog 70 #[.pointer (some ⟨b, 0, none⟩), .int .i64 n] w fun e w' => e = .returned (.int .u64 0) ∧ w = w' := by
  have H := Lib.hid h
  have HY := Lib.hid hy
  have HW : Hid ((n : Int) = 1 ∨ (n : Int) = 2 ∨ (n : Int) = 4 ∨ (n : Int) = 8) := by show _ ∨ _; omega
  clear h hw hy
  go_enter Try.func70, Try.ntmps70
  go_wp2_with (first | (go_at_call 98; refine (width_yes _ _ HW.out).mono ?_; rintro e w' ⟨rfl, rfl⟩))
  refine (rraw_late w S b l n y H.out HY.out).mono ?_
  rintro e w2 ⟨rfl, rfl⟩
  go_wp2_with fail
  go_loopw [5, 7, 17] (fun x _ i wr => i = .int .i64 0 ∧ x = .int .u64 0 ∧ wr = w) (fun _ _ _ _ => 0)
  case atStart =>
    exact ⟨rfl, rfl, rfl⟩
  case round =>
    obtain ⟨rfl, rfl, rfl⟩ := hrel
    go_wp2_with fail
    go_ret
    exact ⟨rfl, rfl⟩

set_option maxRecDepth 100000 in
theorem rleft_ok (w : World) (S : Nat → Prop) (b : Nat) (l : List UInt8) (h : ReaderAt w S b l 0) :
    Calls Try.prog 108 #[.pointer (some ⟨b, 0, none⟩)] w fun e w' => e = .returned (.int .i64 l.length) ∧ w = w' := by
  have H := Lib.hid h
  obtain ⟨bv, T, hb, hrb, _⟩ := h
  have hc0 := cell_of_heap hb 0
  simp only [List.getElem?_toArray, List.getElem?_cons_zero] at hc0
  obtain ⟨va, vc, rfl⟩ := hrb.form
  clear hb hrb
  go_enter Try.func108, Try.ntmps108
  go_wp2_with (first | (go_at_call 71; refine (rerr_any w S b l 0 H.out).mono ?_; rintro e w1 ⟨rfl, rfl⟩))
  go_ret
  exact ⟨rfl, rfl⟩

set_option maxRecDepth 100000 in
theorem rleft_late (w : World) (S : Nat → Prop) (b : Nat) (l : List UInt8) (y : Int) (h : ReaderAt w S b l y) (hy : y ≠ 0) :
    Calls Try.prog 108 #[.pointer (some ⟨b, 0, none⟩)] w fun e w' => e = .returned (.int .i64 0) ∧ w = w' := by
  have H := Lib.hid h
  have e0 : (y == 0) = false := by simpa using hy
  have e1 : (y != 0) = true := by simpa using hy
  clear h hy
  go_enter Try.func108, Try.ntmps108
  go_wp2_with (first | (go_at_call 71; refine (rerr_any w S b l y H.out).mono ?_; rintro e w1 ⟨rfl, rfl⟩))
  go_ret
  exact ⟨rfl, rfl⟩

set_option maxRecDepth 100000 in
theorem rend_ok (w : World) (S : Nat → Prop) (b : Nat) (l : List UInt8) (h : ReaderAt w S b l 0) :
    Calls Try.prog 72 #[.pointer (some ⟨b, 0, none⟩)] w fun e w' => e = .returned (.int .i64 (if l = [] then 0 else 12)) ∧ w = w' := by
  have H := Lib.hid h
  clear h
  cases l with
  | nil =>
    go_enter Try.func72, Try.ntmps72
    go_wp2_with (first | (go_at_call 108; refine (rleft_ok w S b [] H.out).mono ?_; rintro e w1 ⟨rfl, rfl⟩) | (go_at_call 71; refine (rerr_any w S b [] 0 H.out).mono ?_; rintro e w1 ⟨rfl, rfl⟩))
    go_ret
    exact ⟨rfl, rfl⟩
  | cons x l =>
    obtain ⟨n, hn⟩ : ∃ n, n = (x :: l).length := ⟨_, rfl⟩
    have hp : (0 : Int) < n := by rw [hn]; simp
    have HN := Lib.hid hn
    clear hn
    go_enter Try.func72, Try.ntmps72
    go_wp2_with (first | (go_at_call 108; refine (rleft_ok w S b (x :: l) H.out).mono ?_; rintro e w1 ⟨rfl, rfl⟩; rw [← HN.out]))
    go_ret
    exact ⟨by simp, rfl⟩

set_option maxRecDepth 100000 in
theorem rint_ok (w : World) (S : Nat → Prop) (b : Nat) (l : List UInt8) (h : ReaderAt w S b l 0) (hn : 8 ≤ l.length) (hl : l.length ≤ 140737488355328) :
    Calls Try.prog 128 #[.pointer (some ⟨b, 0, none⟩)] w fun e w' => e = .returned (.int .i64 (wrap64 (ofBe (l.take 8)))) ∧ ReaderAt w' S b (l.drop 8) 0 ∧ Chg (fun k => k = b) w w' := by
  have H := Lib.hid h
  clear h
  go_enter Try.func128, Try.ntmps128
  go_wp2_with fail
  refine (rnum_ok w S b l 8 H.out (by omega) hn hl).mono ?_
  rintro e w2 ⟨rfl, hr, hc⟩
  obtain ⟨x, hx⟩ : ∃ x, x = ofBe (l.take 8) := ⟨_, rfl⟩
  rw [← hx]
  have HX := Lib.hid hx
  clear hx
  go_wp2_with fail
  go_ret
  rw [← HX.out]
  exact ⟨rfl, hr, hc⟩

set_option maxRecDepth 100000 in
theorem rcount_ok (w : World) (S : Nat → Prop) (b : Nat) (l : List UInt8) (top : Int) (h : ReaderAt w S b l 0) (hn : 2 ≤ l.length) (hl : l.length ≤ 140737488355328) (ht : (ofBe (l.take 2) : Int) ≤ max top 0) :
    Calls Try.prog 138 #[.pointer (some ⟨b, 0, none⟩), .int .i64 top] w fun e w' => e = .returned (.int .i64 (ofBe (l.take 2))) ∧ ReaderAt w' S b (l.drop 2) 0 ∧ Chg (fun k => k = b) w w' := by
  have H := Lib.hid h
  obtain ⟨x, hx⟩ : ∃ x, x = ofBe (l.take 2) := ⟨_, rfl⟩
  have hlt : x < 65536 := by
    have h1 := ofBe_lt (l.take 2)
    have h2 : (l.take 2).length = 2 := by simp; omega
    rw [h2] at h1
    rw [hx]; exact h1
  rw [← hx] at ht ⊢
  have HX := Lib.hid hx
  have hw : IntKind.i64.wrap (x : Int) = x := by rw [IntKind.wrap_i64]; omega
  obtain ⟨t, htt⟩ : ∃ t, t = if top < 0 then (0 : Int) else top := ⟨_, rfl⟩
  have hle : ¬ t < (x : Int) := by rw [htt]; split <;> omega
  have htt' := htt.symm
  clear h hx htt ht
  go_enter Try.func138, Try.ntmps138
  go_wp2_with fail
  refine (rnum_ok w S b l 2 H.out (by omega) hn hl).mono ?_
  rintro e w2 ⟨rfl, hr, hc⟩
  rw [← HX.out]
  go_wp2_with fail
  go_ret
  exact ⟨rfl, hr, hc⟩

set_option maxRecDepth 100000 in
theorem rcount_long (w : World) (S : Nat → Prop) (b : Nat) (l : List UInt8) (top : Int) (h : ReaderAt w S b l 0) (hn : 2 ≤ l.length) (hl : l.length ≤ 140737488355328) (ht : ¬ (ofBe (l.take 2) : Int) ≤ max top 0) :
    Calls Try.prog 138 #[.pointer (some ⟨b, 0, none⟩), .int .i64 top] w fun e w' => e = .returned (.int .i64 0) ∧ ReaderAt w' S b [] 12 ∧ Chg (fun k => k = b) w w' := by
  have H := Lib.hid h
  obtain ⟨x, hx⟩ : ∃ x, x = ofBe (l.take 2) := ⟨_, rfl⟩
  have hlt : x < 65536 := by
    have h1 := ofBe_lt (l.take 2)
    have h2 : (l.take 2).length = 2 := by simp; omega
    rw [h2] at h1
    rw [hx]; exact h1
  rw [← hx] at ht
  have HX := Lib.hid hx
  have hw : IntKind.i64.wrap (x : Int) = x := by rw [IntKind.wrap_i64]; omega
  obtain ⟨t, htt⟩ : ∃ t, t = if top < 0 then (0 : Int) else top := ⟨_, rfl⟩
  have hle : t < (x : Int) := by rw [htt]; split <;> omega
  have htt' := htt.symm
  clear h hx htt ht
  go_enter Try.func138, Try.ntmps138
  go_wp2_with fail
  refine (rnum_ok w S b l 2 H.out (by omega) hn hl).mono ?_
  rintro e w2 ⟨rfl, hr, hc⟩
  have HR := Lib.hid hr
  clear hr
  rw [← HX.out]
  go_wp2_with fail
  refine (rfail_first w2 S b _ 12 HR.out).mono ?_
  rintro e w3 ⟨rfl, hr3, hc3⟩
  go_wp2_with fail
  go_ret
  exact ⟨rfl, hr3, hc.trans hc3⟩
end Go.Proofs.Ytjhkhdockiocgaa
