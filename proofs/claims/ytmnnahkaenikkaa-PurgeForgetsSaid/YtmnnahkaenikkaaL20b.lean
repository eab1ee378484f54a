/- Law 20: lives, right. -/
import Derived.Test.YtmnnahkaenikkaaL20
namespace Go.Proofs.Ytmnnahkaenikkaa
open Go.RowKit Go.Cat
theorem has_empty {k : Lit} {h : Hld} : ¬ Has (.map [] : HD) k h := fun e => by
  have := e (.map [])
  simp [DataW.atKey, encH] at this
/-- A table without holds meets nothing. -/
theorem meets_new (w : World) (S : Nat → Prop) (b : Nat) (sr : List UInt8) (h : TabAt w S b (.map []) 0) : MeetsAs w (.pointer (some ⟨b, 0, none⟩)) sr (fun _ _ => false) := fun W x y c => by
  refine (meets_any W S b (.map []) 0 sr x y (h.kept c (fun _ _ h => h))).mono ?_
  rintro e w' ⟨r, rfl, hr, c2⟩
  refine ⟨?_, c2⟩
  cases r with
  | false => rfl
  | true =>
    obtain ⟨k, h, hh, _⟩ := hr.1 rfl
    exact absurd hh has_empty
def liveL : List Pt := [⟨5, 0⟩, ⟨15, 0⟩]
theorem live_put : (St.new.put liveL) = (2, 0, ⟨liveL, [], [], 0, 0⟩) := by
  have e : St.new.put liveL = ((sput [] liveL).1, (sput [] liveL).2.1, { St.new with raw := (sput [] liveL).2.2 }) := rfl
  rw [e]
  have h : sput [] liveL = (2, 0, liveL) := by kernel_rfl
  rw [h]
  rfl
theorem live_do : (⟨liveL, [], [], 0, 0⟩ : St).do_ (fun _ _ => false) 10 20 = (1, 0, 0, ⟨[⟨5, 0⟩], [], [], 0, 0⟩) := by kernel_rfl
set_option maxRecDepth 100000 in
theorem eql_rng (w : World) (x y : Int) : (binOp .eql 24 (.agg #[.int .i64 x, .int .i64 y]) (.agg #[.int .i64 x, .int .i64 y])).run Try.prog w = .ok (.bool true) w := by
  have hS : Try.prog.underlying 24 = some (.struct (Try.prog.fieldsOf 24)) := by kernel_rfl
  have hp : Try.prog.stoodInHeld 24 = false := by kernel_rfl
  rw [run_eql_struct, show (10000 : Nat) = 9999 + 1 from rfl, run_equalIn_agg w 9999 24 _ _ hS hp]
  simp only [Program.fieldsOf, Try.underlying24]
  go_simp
set_option maxRecDepth 100000 in
set_option maxHeartbeats 1000000 in
theorem lives20 (w : World) : Calls Try.prog 6 #[] w fun e w' => e = .returned (.bool true) ∧ Chg (fun _ => False) w w' := by
  go_enter Try.func6, Try.ntmps6
  go_wp2_with fail
  refine (newst_c w).mono ?_
  rintro e w1 ⟨R, rfl, hs1, c1⟩
  have HS1 := Lib.hid hs1
  have C1 := Lib.hid c1
  clear hs1 c1
  go_wp2_with fail
  obtain ⟨W, hW⟩ : ∃ W, W = w1.alloc (.cells #[.int .i64 5, .int .i64 0, .int .i64 15, .int .i64 0] 32) := ⟨_, rfl⟩
  have cW : Chg (fun _ => False) w1 W := by rw [hW]; exact (Chg.refl _ w1).alloc _
  have hP : Pts W (.slice (some ⟨w1.heap.size, 0, none⟩) 2 2) liveL := by
    refine ⟨rfl, .inr ⟨w1.heap.size, 0, 2, rfl, Nat.le_refl _, by simp only [maxLen]; show 2 ≤ _; omega, by rw [hW]; simp, fun j u hj => ?_⟩⟩
    rw [Nat.zero_add, hW, World.cell?_alloc_new]
    simpa [liveL, Pt.cells] using hj
  have PC := stput_c W _ R St.new _ liveL (HS1.out.same cW) hP (by simp [liveL])
  rw [live_put] at PC
  have PC := Lib.hid PC
  have CW := Lib.hid cW
  rw [← hW]
  clear hW cW hP
  refine PC.out.mono ?_
  rintro e w2 ⟨rfl, hs2, c2⟩
  have HS2 := Lib.hid hs2
  have C2 := Lib.hid c2
  clear hs2 c2 PC
  go_wp2_with fail
  refine (new_tab w2).mono ?_
  rintro e w3 ⟨b, rfl, ht, c3⟩
  have DC : Calls Try.prog 12 #[.pointer (some ⟨R, 0, none⟩), .string ⟨#[97]⟩, .pointer (some ⟨b, 0, none⟩), .agg #[.int .i64 10, .int .i64 20]] w3 _ := do_c w3 _ R _ (.pointer (some ⟨b, 0, none⟩)) [97] (fun _ _ => false) 10 20 (HS2.out.same c3) ⟨by simp [liveL, in64], by simp, by simp⟩ (meets_new w3 _ b [97] ht)
  rw [live_do] at DC
  have DC := Lib.hid DC
  have C3 := Lib.hid c3
  clear ht c3
  go_wp2_with fail
  refine DC.out.mono ?_
  rintro e w4 ⟨rfl, hs4, c4⟩
  have HS4 := Lib.hid hs4
  have C4 := Lib.hid c4
  have RE := fun W => reach_c W 10 20 (by omega) (by omega) (by omega)
  rw [show covF 2 10 = 0 by decide, show covT 2 20 = 3600 by decide] at RE
  have RE := Lib.hid RE
  have heq := eql_rng
  obtain ⟨w5, hw5⟩ : ∃ w5, w5 = w4.alloc (.cells #[.int .i64 1, .int .i64 0] 34) := ⟨_, rfl⟩
  have c5 : Chg (fun _ => False) w4 w5 := by rw [hw5]; exact (Chg.refl _ w4).alloc _
  have q5 : Hid (w5.cell? ⟨w4.heap.size, 0, none⟩ = some (.int .i64 1)) := by show _ = _; rw [hw5, World.cell?_alloc_new]; rfl
  have C5 := Lib.hid c5
  have HW5 := Lib.hid hw5
  clear hs4 c4 DC c5 hw5
  go_wp2_with fail
  rw [← HW5.out]
  refine (RE.out _).mono ?_
  rintro e w6 ⟨rfl, c6⟩
  have LC := stlen_c w6 _ R _ 0 (.inl rfl) (HS4.out.same (C5.out.trans c6))
  have q6 := c6.cell q5.out (fun h => h)
  have LC := Lib.hid LC
  have C6 := Lib.hid c6
  clear c6
  go_wp2_with fail
  refine LC.out.mono ?_
  rintro e w7 ⟨rfl, rfl⟩
  go_wp2_with fail
  go_ret
  have z1 := C1.out.size
  have z2 := CW.out.size
  have z3 := C2.out.size
  have z4 := C3.out.size
  refine ⟨rfl, ((((C1.out.trans CW.out).new C2.out (fun q hq => hq.1)).trans C3.out).new C4.out (fun q hq => ?_)).trans (C5.out.trans C6.out)⟩
  rcases hq with hq | hq
  · exact hq.1
  · omega
set_option maxRecDepth 100000 in
theorem right20 (lo hi : Int) (w : World) :
    Calls Try.prog 8 #[.agg #[.int .i64 lo, .int .i64 hi]] w fun e w' => e = .returned (.bool (rngOk lo hi)) ∧ Chg (fun _ => False) w w' := by
  unfold rngOk
  by_cases h1 : 0 ≤ lo
  · by_cases h2 : lo < hi
    · go_enter Try.func8, Try.ntmps8
      go_wp2_with fail
      go_ret
      refine ⟨?_, (Chg.refl _ w).alloc _⟩
      show Ending.returned (.bool (decide (hi ≤ 1099511627777))) = _
      congr 2
      simp [h1, h2]
    · rw [decide_eq_false (show ¬ (0 ≤ lo ∧ lo < hi ∧ hi ≤ 1099511627777) from fun h => h2 h.2.1)]
      go_enter Try.func8, Try.ntmps8
      go_wp2_with fail
      go_ret
      exact ⟨rfl, (Chg.refl _ w).alloc _⟩
  · rw [decide_eq_false (show ¬ (0 ≤ lo ∧ lo < hi ∧ hi ≤ 1099511627777) from fun h => h1 h.1)]
    go_enter Try.func8, Try.ntmps8
    go_wp2_with fail
    go_ret
    exact ⟨rfl, (Chg.refl _ w).alloc _⟩
end Go.Proofs.Ytmnnahkaenikkaa
