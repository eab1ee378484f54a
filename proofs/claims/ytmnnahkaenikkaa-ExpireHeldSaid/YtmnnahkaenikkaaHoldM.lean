/- Contracts of package hold: Meets. -/
import Derived.Test.YtmnnahkaenikkaaHold3
namespace Go.Proofs.Ytmnnahkaenikkaa
open Go.RowKit Go.Cat

theorem ranges_kept {w w' : World} {S : Nat → Prop} {k : TypeId} {R : Value → Option (HD × List MemPlace)} {b r n cnt : Nat} {D : HD} {left : Lit → Bool} (h : w.ranges Try.prog k R b r n D left cnt) (c : Chg S w w') (hb : ¬ S b) (hr : ¬ S r) : w'.ranges Try.prog k R b r n D left cnt := by
  obtain ⟨es, clock, since, seen, c0, h1, h2, h3, h4, h5, h6⟩ := h
  exact ⟨es, clock, since, seen, c0, c.heap h1 hb, h2, h3, h4, c.heap h5 hr, h6⟩
def mkS (s : List UInt8) : Value := .string ⟨s.toArray⟩
def mkH (h : Hld) : Value := .agg #[.string ⟨h.name.toArray⟩, .string ⟨h.series.toArray⟩, .int .i64 h.lo, .int .i64 h.hi]
theorem invS (key : Value) (kl : Lit) (h : keyOf Try.prog 9 key = some kl) : ∃ x, key = mkS x := by
  cases key <;> simp [keyOf, Try.underlying9, mapKey] at h
  rename_i s
  exact ⟨s.data.toList, by simp [mkS]⟩
theorem invH (v : Value) (y : HD × List MemPlace) (h : holdR v = some y) : ∃ c, v = mkH c := by
  obtain ⟨x, hx, _⟩ := holdR_inv h
  exact ⟨x, hx⟩
theorem sameKey_at {a b : Lit} (h : a.sameKey b = true) : a = b := WideAt.sameKey_eq h

set_option maxRecDepth 100000 in
set_option maxHeartbeats 2000000 in
theorem meets_any (w : World) (Sb : Nat → Prop) (b : Nat) (D : HD) (n : Nat) (s : List UInt8) (rlo rhi : Int) (ht : TabAt w Sb b D n) :
    Calls Try.prog 44 #[.pointer (some ⟨b, 0, none⟩), .string ⟨s.toArray⟩, .agg #[.int .i64 rlo, .int .i64 rhi]] w fun e w' => ∃ r : Bool, e = .returned (.bool r) ∧ (r = true ↔ ∃ k h, Has D k h ∧ (h.of s ∧ max h.lo rlo < min h.hi rhi)) ∧ Chg (fun _ => False) w w' := by
  obtain ⟨m, T, hb, hown, _, _⟩ := ht
  obtain ⟨w1, hw1⟩ : ∃ w1, w1 = w.alloc (.cells #[.int .i64 rlo, .int .i64 rhi] 24) := ⟨_, rfl⟩
  have c01 : Chg (fun _ => False) w w1 := by rw [hw1]; exact (Chg.refl _ w).alloc _
  have hrb1 : w1.heap[w.heap.size]? = some (.cells #[.int .i64 rlo, .int .i64 rhi] 24 (0, 0)) := by rw [hw1]; exact heap_at_new _ _ _ rfl
  have HRB := Lib.hid hrb1
  have hown := owns_kept hown c01 (fun h => h)
  have hb := c01.heap hb (fun h => h)
  have bm0 := hb
  rw [hw1] at bm0
  have bm' : (w.alloc (.cells #[.int .i64 rlo, .int .i64 rhi] 24)).cell? ⟨b, 0, none⟩ = some (.map (some m)) := by rw [cell_of_heap bm0]; rfl
  have HOl : Hid ((w.alloc (.cells #[.int .i64 rlo, .int .i64 rhi] 24)).ownsMap Try.prog 9 holdR m n D) := by rw [hw1] at hown; exact hown
  have HEQ := Lib.hid hw1
  clear hw1 hrb1 bm0
  have bm : w1.cell? ⟨b, 0, none⟩ = some (.map (some m)) := by rw [cell_of_heap hb]; rfl
  have HO := Lib.hid hown
  clear hb hown
  go_enter Try.func44, Try.ntmps44
  go_wp2_with (first | (at_range; refine wpList_range_own _ rfl _ 77 rfl 9 47 strKey Try.underlying77 holdR m n D rfl HOl.out ?_; intro w2 hrg0 hg0 hs0))
  have hr0 : m < w1.heap.size := HO.out.lt
  rw [← HEQ.out] at hrg0 hg0 hs0 ⊢
  clear bm'
  have c2 : Chg (fun _ => False) w1 w2 := (Chg.of_grownBy hg0).mono (fun _ _ h => by cases h)
  have HR0 := Lib.hid hrg0
  have HS0 := Lib.hid hs0
  clear hrg0 hg0 hs0 bm
  go_frame
  go_loopw [8] (fun _ wr => ∃ (left : Lit → Bool) (cnt : Nat), Hid (wr.ranges Try.prog 9 holdR m w1.heap.size n D left cnt) ∧ Hid (∀ k h, Has D k h → left k = true ∨ ¬ (h.of s ∧ max h.lo rlo < min h.hi rhi)) ∧ Hid (Chg (fun _ => False) w1 wr)) (fun _ wr => wr.rangeLeft m w1.heap.size)
  case atStart =>
    exact ⟨_, _, HR0.out, fun k h hh => .inl hh.has, c2⟩
  case round =>
    obtain ⟨left, cnt, hrg, hL, hC⟩ := hrel
    go_wp2_with (first | (at_next; refine wpList_next_ranges _ rfl _ rfl 9 strKey holdR mkS mkH invS invH m w1.heap.size n D left cnt rfl hrg.out ?_ ?_))
    · intro _ hl0
      have hno : Hid (¬ ∃ k h, Has D k h ∧ (h.of s ∧ max h.lo rlo < min h.hi rhi)) := fun ⟨k, h, h1, h2⟩ => by
        rcases hL.out k h h1 with h3 | h3
        · rw [hl0 k] at h3; cases h3
        · exact h3 h2
      clear hl0
      go_wp2_with fail
      go_ret
      exact ⟨false, rfl, ⟨fun h => (Bool.false_ne_true h).elim, fun h => (hno.out h).elim⟩, c01.trans hC.out⟩
    · intro x c kl y ps w3 cnt3 hkey hlk hv hat hrg1 hlt hg1 hs1 hen
      have hHas : Has D kl c := fun zd => by
        have e : holdR (mkH c) = some (encH c, []) := holdR_mk c
        rw [e] at hv
        rw [hat zd]
        cases hv; rfl
      have HHas := Lib.hid hHas
      have hg1' : Chg (fun k => k = w1.heap.size) wr w3 := (Chg.of_grownBy hg1).mono (fun k _ h => by cases h; rfl)
      have HRG1 := Lib.hid hrg1
      have hlt' : cnt3 < cnt := hlt
      have c13 : Chg (fun _ => False) w1 w3 := hC.out.new hg1' (fun k hk => by omega)
      have hrb : w1.heap.size < w3.heap.size := by
        obtain ⟨_, _, _, _, _, _, _, _, _, h5, _⟩ := hrg1
        exact (Array.getElem?_eq_some_iff.1 h5).1
      clear hHas hv hat hrg1 hg1 hs1 hkey hlk
      obtain ⟨cn, cs, clo, chi⟩ := c
      simp only [mkS, mkH] at hen
      have ofs := Lib.hid (fun w => hold_of ⟨cn, cs, clo, chi⟩ s w)
      obtain ⟨q1, hq1⟩ : ∃ q1, q1 = decide ((⟨cn, cs, clo, chi⟩ : Hld).of s) := ⟨_, rfl⟩
      rw [← hq1] at ofs
      have Q1 := Lib.hid hq1
      clear hq1
      go_wp2_with fail
      obtain ⟨w4, hw4⟩ : ∃ w4, w4 = w3.alloc (.cells #[.string ⟨cn.toArray⟩, .string ⟨cs.toArray⟩, .int .i64 clo, .int .i64 chi] 47) := ⟨_, rfl⟩
      have c34 : Chg (fun _ => False) w3 w4 := by rw [hw4]; exact (Chg.refl _ w3).alloc _
      have hh4 : w4.heap[w3.heap.size]? = some (.cells #[.string ⟨cn.toArray⟩, .string ⟨cs.toArray⟩, .int .i64 clo, .int .i64 chi] 47 (0, 0)) := by rw [hw4]; exact heap_at_new _ _ _ rfl
      have HH4 := Lib.hid hh4
      rw [← hw4]
      clear hw4 hh4 hen
      refine (ofs.out w4).mono ?_
      rintro e w5 ⟨rfl, c5⟩
      have c15 : Chg (fun _ => False) w1 w5 := (c13.trans c34).trans c5
      have c35 := c34.trans c5
      have hgo : ∀ w6, Chg (fun _ => False) w5 w6 → ¬ ((⟨cn, cs, clo, chi⟩ : Hld).of s ∧ max (⟨cn, cs, clo, chi⟩ : Hld).lo rlo < min (⟨cn, cs, clo, chi⟩ : Hld).hi rhi) →
          (∃ (left : Lit → Bool) (cnt : Nat), Hid (w6.ranges Try.prog 9 holdR m w1.heap.size n D left cnt) ∧ Hid (∀ k h, Has D k h → left k = true ∨ ¬ (h.of s ∧ max h.lo rlo < min h.hi rhi)) ∧ Hid (Chg (fun _ => False) w1 w6)) ∧ w6.rangeLeft m w1.heap.size < wr.rangeLeft m w1.heap.size := by
        intro w6 c6 hnp
        have hr6 := ranges_kept HRG1.out (c35.trans c6) (fun h => h) (fun h => h)
        refine ⟨⟨_, cnt3, hr6, fun k h hh => ?_, c15.trans c6⟩, by rw [hr6.left_eq, hrg.out.left_eq]; exact hlt'⟩
        rcases hL.out k h hh with h1 | h1
        · cases hk : k.sameKey kl with
          | false => exact .inl (by rw [h1]; rfl)
          | true =>
            obtain rfl := sameKey_at hk
            obtain rfl := hh.uni HHas.out
            exact .inr hnp
        · exact .inr h1
      have HGO := Lib.hid hgo
      have hyes : ∀ w6, Chg (fun _ => False) w5 w6 → ((⟨cn, cs, clo, chi⟩ : Hld).of s ∧ max (⟨cn, cs, clo, chi⟩ : Hld).lo rlo < min (⟨cn, cs, clo, chi⟩ : Hld).hi rhi) → ∃ r : Bool, Ending.returned (.bool true) = .returned (.bool r) ∧ (r = true ↔ ∃ k h, Has D k h ∧ (h.of s ∧ max h.lo rlo < min h.hi rhi)) ∧ Chg (fun _ => False) w w6 :=
        fun w6 c6 hp => ⟨true, rfl, ⟨fun _ => ⟨kl, _, HHas.out, hp⟩, fun _ => rfl⟩, c01.trans (c15.trans c6)⟩
      have HYES := Lib.hid hyes
      clear hgo hyes
      cases q1 with
      | false =>
        have hn := of_decide_eq_false Q1.out.symm
        have G := Lib.hid (HGO.out w5 (Chg.refl _ _) (fun h => hn h.1))
        clear hn
        go_wp2_with fail
        exact G.out
      | true =>
        have hp := of_decide_eq_true Q1.out.symm
        have HP := Lib.hid hp
        have HH5 := Lib.hid (c5.heap HH4.out (fun h => h))
        have a2 : w5.cell? ⟨w3.heap.size, 2, none⟩ = some (.int .i64 clo) := by rw [cell_of_heap HH5.out]; rfl
        have a3 : w5.cell? ⟨w3.heap.size, 3, none⟩ = some (.int .i64 chi) := by rw [cell_of_heap HH5.out]; rfl
        have HR5 := Lib.hid (c15.heap HRB.out (fun h => h))
        have r0 : w5.cell? ⟨w.heap.size, 0, none⟩ = some (.int .i64 rlo) := by rw [cell_of_heap HR5.out]; rfl
        have r1 : w5.cell? ⟨w.heap.size, 1, none⟩ = some (.int .i64 rhi) := by rw [cell_of_heap HR5.out]; rfl
        have two := Lib.hid (window_meets clo chi rlo rhi w5)
        obtain ⟨q2, hq2⟩ : ∃ q2, q2 = decide (max clo rlo < min chi rhi) := ⟨_, rfl⟩
        rw [← hq2] at two
        have Q2 := Lib.hid hq2
        clear hq2 hp
        cases q2 with
        | false =>
          have hn := of_decide_eq_false Q2.out.symm
          have HN := Lib.hid hn
          clear hn
          go_wp2_with fail
          refine two.out.mono ?_
          rintro e w6 ⟨rfl, c6⟩
          have G := Lib.hid (HGO.out w6 c6 (fun h => by have h1 := HN.out; have h2 := h.2; omega))
          go_wp2_with fail
          exact G.out
        | true =>
          have hp2 := of_decide_eq_true Q2.out.symm
          have HP2 := Lib.hid hp2
          clear hp2
          go_wp2_with fail
          refine two.out.mono ?_
          rintro e w6 ⟨rfl, c6⟩
          have G := Lib.hid (HYES.out w6 c6 ⟨HP.out, HP2.out⟩)
          go_wp2_with fail
          go_ret
          exact G.out
set_option maxRecDepth 100000 in
theorem nmeets (s : List UInt8) (x y : Int) (w : World) : Calls Try.prog 44 #[.pointer none, .string ⟨s.toArray⟩, .agg #[.int .i64 x, .int .i64 y]] w fun e w' => e = .returned (.bool false) ∧ Chg (fun _ => False) w w' := by
  go_enter Try.func44, Try.ntmps44
  go_wp2_with fail
  go_ret
  exact ⟨rfl, by first | exact (Chg.refl _ w).alloc _ | exact Chg.refl _ w⟩
end Go.Proofs.Ytmnnahkaenikkaa
