/- Contracts of package stamp: get, zero, Unpack. -/
import Derived.Test.YtjhkhdockiocgaaStampPure2
namespace Go.Proofs.Ytjhkhdockiocgaa
open Go.RowKit Go.Cat

theorem ret_bool2 {a b : Bool} (h : a = b) : Ending.returned (.bool a) = .returned (.bool b) := by rw [h]

set_option maxRecDepth 100000 in
set_option maxHeartbeats 1000000 in
theorem get_ok (w : World) (S : Nat → Prop) (b : Nat) (l : List UInt8) (h : ReaderAt w S b l 0) (hS : ∀ k, S k → k < w.heap.size) (hn : 8 ≤ l.length) (hl : l.length ≤ 140737488355328) :
    Calls Try.prog 134 #[.pointer (some ⟨b, 0, none⟩)] w fun e w' => e = .returned (.agg #[.int .u32 (ofBe (l.take 4)), .int .u32 (ofBe ((l.drop 4).take 4))]) ∧ ReaderAt w' S b (l.drop 8) 0 ∧ Chg (fun k => k = b) w w' := by
  obtain ⟨bv, T, hb, _⟩ := id h
  have hbl : b < w.heap.size := (Array.getElem?_eq_some_iff.1 hb).1
  have h1 : ReaderAt (w.alloc (.cells #[.int .u32 0, .int .u32 0] 136)) S b l 0 := h.kept (T := fun _ => False) ((Chg.refl _ w).alloc _) (fun _ _ hf => hf)
  have H1 := Lib.hid h1
  have b4 : ∀ m : List UInt8, 4 ≤ m.length → ofBe (m.take 4) < 4294967296 := fun m hm => by
    have h1 := ofBe_lt (m.take 4)
    have h2 : (m.take 4).length = 4 := by simp; omega
    rw [h2] at h1
    have h3 : (256 : Nat) ^ 4 = 4294967296 := by decide
    rw [h3] at h1; exact h1
  obtain ⟨x, hx⟩ : ∃ x, x = ofBe (l.take 4) := ⟨_, rfl⟩
  obtain ⟨y, hy⟩ : ∃ y, y = ofBe ((l.drop 4).take 4) := ⟨_, rfl⟩
  have hx4 : x < 4294967296 := by rw [hx]; exact b4 l (by omega)
  have hy4 : y < 4294967296 := by rw [hy]; exact b4 _ (by simp; omega)
  rw [← hx, ← hy]
  have HX := Lib.hid hx
  have HY := Lib.hid hy
  clear h h1 hb b4 hx hy
  go_enter Try.func134, Try.ntmps134
  go_wp2_with fail
  refine (rnum_ok _ S b l 4 H1.out (by omega) (by omega) hl).mono ?_
  rintro e w2 ⟨rfl, h2, c2⟩
  rw [← HX.out]
  have H2 := Lib.hid h2
  clear h2 H1
  go_wp2_with fail
  refine (rnum_ok w2 S b _ 4 H2.out (by omega) (by simp; omega) (by simp; omega)).mono ?_
  rintro e w3 ⟨rfl, h3, c3⟩
  rw [← HY.out]
  have H3 := Lib.hid h3
  have hbn : ¬ w.heap.size = b := by omega
  have cc : Chg (fun k => k = b) (w.alloc (.cells #[.int .u32 0, .int .u32 0] 136)) w3 := c2.trans c3
  have hh3 := cc.heap (heap_at_new w _ _ rfl) hbn
  have q0 : w3.cell? ⟨w.heap.size, 0, none⟩ = some (.int .u32 0) := by rw [cell_of_heap hh3]; rfl
  have q1 : w3.cell? ⟨w.heap.size, 1, none⟩ = some (.int .u32 0) := by rw [cell_of_heap hh3]; rfl
  have qf : ∀ i, w3.frozen? ⟨w.heap.size, i, none⟩ = false := frozen_of_heap hh3
  have HH3 := Lib.hid hh3
  have wx : IntKind.u32.wrap (x : Int) = x := by rw [IntKind.wrap_u32]; omega
  have wy : IntKind.u32.wrap (y : Int) = y := by rw [IntKind.wrap_u32]; omega
  clear h3 H2 hh3
  go_wp2_with fail
  have hg : ((w3.setCell ⟨w.heap.size, 0, none⟩ (.int .u32 x)).setCell ⟨w.heap.size, 1, none⟩ (.int .u32 y)).heap[w.heap.size]? = some (.cells #[.int .u32 x, .int .u32 y] 136 (0, 0)) :=
    Cat.heap_setCell_same (Cat.heap_setCell_same HH3.out 0 _) 1 _
  have c4 : Chg (fun k => k = w.heap.size) w3 ((w3.setCell ⟨w.heap.size, 0, none⟩ (.int .u32 x)).setCell ⟨w.heap.size, 1, none⟩ (.int .u32 y)) :=
    ((Chg.refl (fun k => k = w.heap.size) w3).setCell (p := ⟨w.heap.size, 0, none⟩) (fun _ => rfl) _).setCell (p := ⟨w.heap.size, 1, none⟩) (fun _ => rfl) _
  have c5 : Chg (fun k => k = b) w ((w3.setCell ⟨w.heap.size, 0, none⟩ (.int .u32 x)).setCell ⟨w.heap.size, 1, none⟩ (.int .u32 y)) :=
    (((Chg.refl (fun k => k = b) w).alloc _).trans cc).trans' c4 (fun i hi h => by omega)
  refine bodyPost_ret (v := .agg #[.int .u32 x, .int .u32 y]) (results_cell_row rfl _ _ w.heap.size _ _ (0, 0) _ rfl hg Try.underlying136 rfl (by kernel_rfl)) rfl ⟨rfl, ?_, c5⟩
  have h3 := H3.out
  rw [List.drop_drop] at h3
  refine h3.kept c4 (fun k hk e => ?_)
  have := hS k hk; omega

set_option maxRecDepth 100000 in
theorem zero_one (w : World) (x : Nat) :
    Calls Try.prog 140 #[.int .u8 x] w fun e w' => e = .returned (.bool (decide (x ≠ 0))) ∧ w = w' := by
  go_enter Try.func140, Try.ntmps140
  go_wp2_with fail
  go_ret
  refine ⟨?_, rfl⟩
  by_cases h : x = 0 <;> simp [h]

set_option maxRecDepth 100000 in
set_option maxHeartbeats 1000000 in
theorem index_any (v : Value) (w : World) (l : List UInt8) (hv : RB w v l) (hl : l.length ≤ 1000000) :
    Calls Try.prog 152 #[v, .func (.func 140) #[] #[]] w fun e w' => ∃ i : Int, e = .returned (.int .i64 i) ∧ (i < 0 ↔ ∀ x ∈ l, x = 0) ∧ w = w' := by
  obtain ⟨a, c, rfl⟩ := hv.form
  have HV := Lib.hid hv
  clear hv
  go_enter Try.func152, Try.ntmps152
  go_wp2_with fail
  obtain ⟨n, hn⟩ : ∃ n, n = l.length := ⟨_, rfl⟩
  rw [← hn] at hl HV ⊢
  have HN := Lib.hid hn
  clear hn
  go_loopw [5, 8] (fun _ i wr => ∃ k : Nat, k ≤ n ∧ i = .int .i64 k ∧ Hid (∀ x ∈ l.take k, x = 0) ∧ wr = w) (fun _ i _ => n - (intOf i).toNat)
  case atStart =>
    exact ⟨0, by omega, rfl, by simp [Hid], rfl⟩
  case round =>
    obtain ⟨k, hk, rfl, hz, rfl⟩ := hrel
    by_cases hlt : k < n
    · obtain ⟨y, hy⟩ : ∃ y, l[k]? = some y := ⟨_, List.getElem?_eq_getElem (by rw [← HN.out]; exact hlt)⟩
      obtain ⟨g, o, rfl⟩ : ∃ g o, a = some ⟨g, o, none⟩ := by
        rcases HV.out.2 with ⟨hv, h0⟩ | ⟨g, o, c', hv, _⟩
        · rw [← HN.out] at h0; omega
        · simp only [Value.slice.injEq] at hv; exact ⟨g, o, hv.1⟩
      have hcell : wr.cell? ⟨g, o + k, none⟩ = some (.int .u8 y.toNat) := by
        rcases HV.out.2 with ⟨hv, h0⟩ | ⟨g', o', c', hv, _, _, _, h4⟩
        · simp at hv
        · simp only [Value.slice.injEq, Option.some.injEq, Addr.mk.injEq, and_true] at hv
          obtain ⟨⟨rfl, rfl⟩, _⟩ := hv
          have hkl : k < l.length := by rw [← HN.out]; exact hlt
          exact h4 k _ (by rw [bs_get _ k hkl]; rw [List.getElem?_eq_getElem hkl] at hy; cases hy; rfl)
      have hw1 : wrap64 ((k : Int) + 1) = (k : Int) + 1 := by unfold wrap64; omega
      have HY := Lib.hid hy
      clear hy
      by_cases h0 : y.toNat = 0
      · have hd : decide (y.toNat ≠ 0) = false := by simp [h0]
        have hz' : Hid (∀ x ∈ l.take (k + 1), x = 0) := by
          show ∀ x ∈ _, _
          rw [List.take_add_one, HY.out]
          intro x hx
          rcases List.mem_append.1 hx with hx | hx
          · exact hz.out x hx
          · obtain rfl : x = y := by simpa using hx
            exact UInt8.toNat_inj.1 h0
        have Z1 := Lib.hid (zero_one wr y.toNat)
        rw [hd] at Z1
        clear hd h0
        go_wp2_with (first | (go_at_call 140; refine Z1.out.mono ?_; rintro e w' ⟨rfl, rfl⟩))
        exact ⟨⟨k + 1, by omega, rfl, hz', trivial⟩, by simp only [intOf]; omega⟩
      · have hd : decide (y.toNat ≠ 0) = true := by simp [h0]
        have Z1 := Lib.hid (zero_one wr y.toNat)
        rw [hd] at Z1
        have H0 := Lib.hid h0
        clear hd h0
        go_wp2_with (first | (go_at_call 140; refine Z1.out.mono ?_; rintro e w' ⟨rfl, rfl⟩))
        go_ret
        refine ⟨_, rfl, ⟨fun h => by omega, fun h => absurd ?_ H0.out⟩, rfl⟩
        rw [h y (List.mem_of_getElem? HY.out)]; rfl
    · obtain rfl : k = n := by omega
      rw [HN.out, List.take_length] at hz
      go_wp2_with fail
      go_ret
      exact ⟨_, rfl, ⟨fun _ => hz.out, fun _ => by omega⟩, rfl⟩

set_option maxRecDepth 100000 in
set_option maxHeartbeats 1000000 in
theorem contains_any (v : Value) (w : World) (l : List UInt8) (hv : RB w v l) (hl : l.length ≤ 1000000) :
    Calls Try.prog 139 #[v, .func (.func 140) #[] #[]] w fun e w' => e = .returned (.bool (!decide (∀ x ∈ l, x = 0))) ∧ w = w' := by
  have HV := Lib.hid hv
  clear hv
  go_enter Try.func139, Try.ntmps139
  go_wp2_with fail
  refine (index_any v w l HV.out hl).mono ?_
  rintro e w' ⟨i, rfl, hi, rfl⟩
  have HI := Lib.hid hi
  clear hi
  by_cases h : i < 0
  · have h1 : ¬ (0 : Int) ≤ i := by omega
    go_wp2_with fail
    go_ret
    refine ⟨?_, rfl⟩
    have h2 : decide (∀ x ∈ l, x = 0) = true := decide_eq_true (HI.out.1 h)
    have h3 : decide (0 ≤ i) = false := decide_eq_false (by omega)
    rw [h2, Bool.not_true]
    exact ret_bool2 h3
  · have h1 : (0 : Int) ≤ i := by omega
    have h4 : ¬ ∀ x ∈ l, x = 0 := fun hh => h (HI.out.2 hh)
    have H4 := Lib.hid h4
    clear h4 h
    go_wp2_with fail
    go_ret
    refine ⟨?_, rfl⟩
    have h2 : decide (∀ x ∈ l, x = 0) = false := decide_eq_false H4.out
    rw [h2]
    rfl

set_option maxRecDepth 100000 in
theorem zero_any (v : Value) (w : World) (l : List UInt8) (hv : RB w v l) (hl : l.length ≤ 1000000) :
    Calls Try.prog 133 #[v] w fun e w' => e = .returned (.bool (decide (∀ x ∈ l, x = 0))) ∧ w = w' := by
  have HV := Lib.hid hv
  clear hv
  obtain ⟨b, hb⟩ : ∃ b, b = decide (∀ x ∈ l, x = 0) := ⟨_, rfl⟩
  rw [← hb]
  have HB := Lib.hid hb
  clear hb
  go_enter Try.func133, Try.ntmps133
  go_wp2_with fail
  refine (contains_any v w l HV.out hl).mono ?_
  rintro e w' ⟨rfl, rfl⟩
  rw [← HB.out]
  go_wp2_with fail
  go_ret
  exact ⟨by cases b <;> rfl, rfl⟩
end Go.Proofs.Ytjhkhdockiocgaa
