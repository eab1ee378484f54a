/- HoldPlays: the law's own helpers: find, Right (the document's), right. -/
import Derived.Test.YtjhkhdockiocgaaHold8
namespace Go.Proofs.Ytjhkhdockiocgaa
open Go.RowKit Go.Cat

set_option maxRecDepth 100000 in
set_option maxHeartbeats 1000000 in
theorem right12 (s : List UInt8) (w : World) (hl : s.length ≤ 1000000) :
    Calls Try.prog 54 #[.string ⟨s.toArray⟩] w fun e w' => e = .returned (.bool (nameRight s)) ∧ w = w' := by
  have hB : Hid (∀ b : Bool, b = nameRight s → Ending.returned (Value.bool b) = .returned (.bool (nameRight s))) := fun b h => by rw [h]
  go_enter Try.func54, Try.ntmps54
  go_wp2_with fail
  go_loopw [3, 4, 5] (fun i _ _ wr => ∃ k : Nat, k ≤ s.length ∧ i = .int .i64 k ∧ Hid ((∀ c ∈ s.take k, signB c.toNat = true) ∧ (0 < k → letterB (s.headD 0).toNat = true)) ∧ wr = w) (fun i _ _ _ => s.length - (intOf i).toNat)
  case atStart => exact ⟨0, by omega, rfl, ⟨by simp, fun h => by omega⟩, rfl⟩
  case round =>
    obtain ⟨k, hk, rfl, hz, rfl⟩ := hrel
    by_cases hlt : k < s.length
    · obtain ⟨y, hy⟩ : ∃ y, s[k]? = some y := ⟨_, List.getElem?_eq_getElem hlt⟩
      have hidx := idx_str s k y wr hy
      have hkI : (k : Int) < s.length := by omega
      have hyu := y.toNat_lt
      have hF : Hid (signB y.toNat = false → nameRight s = false) := fun h => decide_eq_false (fun h' => by have := h'.2.2.2 y (List.mem_of_getElem? hy); rw [h] at this; cases this)
      have hF0 : Hid (k = 0 → letterB y.toNat = false → nameRight s = false) := fun h0 h => decide_eq_false (fun h' => by
        subst h0
        have h1 := h'.2.2.1
        rw [show s.headD 0 = y by cases s with | nil => simp at hy | cons a l => simpa using hy] at h1
        rw [h] at h1; cases h1)
      have hstep : Hid (signB y.toNat = true → (k = 0 → letterB y.toNat = true) → (∀ c ∈ s.take (k + 1), signB c.toNat = true) ∧ (0 < k + 1 → letterB (s.headD 0).toNat = true)) := fun h1 h2 => by
        refine ⟨fun c hc => ?_, fun _ => ?_⟩
        · rw [List.take_add_one, hy] at hc
          rcases List.mem_append.1 hc with hc | hc
          · exact hz.out.1 c hc
          · obtain rfl : c = y := by simpa using hc
            exact h1
        · by_cases h0 : k = 0
          · subst h0
            rw [show s.headD 0 = y by cases s with | nil => simp at hy | cons a l => simpa using hy]
            exact h2 rfl
          · exact hz.out.2 (by omega)
      clear hz
      generalize hyn : y.toNat = c at *
      clear hy hyn
      by_cases h1 : 97 ≤ c ∧ c ≤ 122
      · have i1 : (97 : Int) ≤ c := by omega
        have i2 : (c : Int) ≤ 122 := by omega
        have hs := hstep.out (decide_eq_true (by omega)) (fun _ => decide_eq_true h1)
        have HS := Lib.hid hs
        clear hs hstep hF hF0 h1
        go_wp2_with fail
        exact ⟨⟨k + 1, by omega, rfl, HS.out, trivial⟩, by simp only [intOf]; omega⟩
      · have hsm : letterB c = false := decide_eq_false h1
        by_cases h0 : k = 0
        · have hN := hF0.out h0 hsm
          have HNR := Lib.hid hN
          have k0 : ((k : Int) == 0) = true := by simp; omega
          clear hN hstep hF hF0 hsm h0
          by_cases i1 : (97 : Int) ≤ c
          · have i2 : ¬ (c : Int) ≤ 122 := by omega
            clear h1
            go_wp2_with fail
            go_ret
            exact ⟨hB.out _ HNR.out.symm, rfl⟩
          · clear h1
            go_wp2_with fail
            go_ret
            exact ⟨hB.out _ HNR.out.symm, rfl⟩
        · have k0 : ((k : Int) == 0) = false := by simp; omega
          by_cases h45 : c = 45
          · subst h45
            have HS := Lib.hid (hstep.out (by decide) (fun h => absurd h h0))
            clear hstep hF hF0 hsm h1
            go_wp2_with fail
            exact ⟨⟨k + 1, by omega, rfl, HS.out, trivial⟩, by simp only [intOf]; omega⟩
          · have c45 : ((c : Int) == 45) = false := by simp; omega
            have c45' : ((c : Int) != 45) = true := by simp; omega
            by_cases h48 : 48 ≤ c ∧ c ≤ 57
            · have HS := Lib.hid (hstep.out (decide_eq_true (by omega)) (fun h => absurd h h0))
              have i1 : ¬ (97 : Int) ≤ c := by omega
              have i2 : ¬ (c : Int) < 48 := by omega
              have i3 : ¬ (57 : Int) < c := by omega
              clear hstep hF hF0 hsm h1
              go_wp2_with fail
              exact ⟨⟨k + 1, by omega, rfl, HS.out, trivial⟩, by simp only [intOf]; omega⟩
            · have HNR := Lib.hid (hF.out (decide_eq_false (by omega)))
              clear hstep hF hF0 hsm
              by_cases i1 : (97 : Int) ≤ c
              · have i2 : ¬ (c : Int) ≤ 122 := by omega
                have i3 : ¬ (c : Int) < 48 := by omega
                have i4 : (57 : Int) < c := by omega
                clear h1 h48
                go_wp2_with fail
                go_ret
                exact ⟨hB.out _ HNR.out.symm, rfl⟩
              · by_cases i2 : (c : Int) < 48
                · clear h1 h48
                  go_wp2_with fail
                  go_ret
                  exact ⟨hB.out _ HNR.out.symm, rfl⟩
                · have i4 : (57 : Int) < c := by omega
                  clear h1 h48
                  go_wp2_with fail
                  go_ret
                  exact ⟨hB.out _ HNR.out.symm, rfl⟩
    · obtain rfl : k = s.length := by omega
      rw [List.take_length] at hz
      by_cases h1 : 1 ≤ s.length
      · have i1 : (1 : Int) ≤ s.length := by omega
        by_cases h2 : s.length ≤ 16
        · have i2 : (s.length : Int) ≤ 16 := by omega
          have HT : Hid (true = nameRight s) := (decide_eq_true ⟨fun e => by rw [e] at h1; simp at h1, h2, hz.out.2 h1, hz.out.1⟩).symm
          go_wp2_with fail
          go_ret
          exact ⟨hB.out _ HT.out, rfl⟩
        · have i2 : ¬ (s.length : Int) ≤ 16 := by omega
          have HT : Hid (false = nameRight s) := (decide_eq_false (fun h => h2 h.2.1)).symm
          go_wp2_with fail
          go_ret
          exact ⟨hB.out _ HT.out, rfl⟩
      · have i1 : ¬ (1 : Int) ≤ s.length := by omega
        have HT : Hid (false = nameRight s) := (decide_eq_false (fun h => h.1 (List.eq_nil_of_length_eq_zero (by omega)))).symm
        go_wp2_with fail
        go_ret
        exact ⟨hB.out _ HT.out, rfl⟩
/-- Where a name is. -/
theorem hold_cells {w : World} {a : Option Addr} {n c : Nat} {M : List Hld} (h : Reads w 4 (.slice a n c) n (M.flatMap Hld.cells)) (hn : n = M.length) (k : Nat) (x : Hld) (hk : M[k]? = some x) :
    ∃ g o, a = some ⟨g, o, none⟩ ∧ w.cell? ⟨g, o + k * 4, none⟩ = some (.string ⟨x.name.toArray⟩) ∧ w.cell? ⟨g, o + k * 4 + 1, none⟩ = some (.string ⟨x.series.toArray⟩) ∧ w.cell? ⟨g, o + k * 4 + 2, none⟩ = some (.int .i64 x.lo) ∧ w.cell? ⟨g, o + k * 4 + 3, none⟩ = some (.int .i64 x.hi) := by
  have hkl := (List.getElem?_eq_some_iff.1 hk).1
  rcases h.2 with ⟨_, h0⟩ | ⟨g, o, c', hv, _, _, _, hc⟩
  · omega
  · simp only [Value.slice.injEq] at hv
    have at_ : ∀ i u, i < 4 → x.cells[i]? = some u → w.cell? ⟨g, o + (k * 4 + i), none⟩ = some u := fun i u hi hu => hc _ u (by rw [rows_at M (s := 4) (f := Hld.cells) (fun _ _ => rfl) k i x hk hi]; exact hu)
    refine ⟨g, o, hv.1, ?_, ?_, ?_, ?_⟩
    · exact at_ 0 _ (by omega) rfl
    · rw [Nat.add_assoc]; exact at_ 1 _ (by omega) rfl
    · rw [Nat.add_assoc]; exact at_ 2 _ (by omega) rfl
    · rw [Nat.add_assoc]; exact at_ 3 _ (by omega) rfl
def FindOut (M : List Hld) (nm : List UInt8) (e : Ending) : Prop := ∃ r : Int, e = .returned (.int .i64 r) ∧ ((r = -1 ∧ ∀ h ∈ M, h.name ≠ nm) ∨ ∃ (k : Nat) (h : Hld), r = k ∧ M[k]? = some h ∧ h.name = nm)
set_option maxRecDepth 100000 in
set_option maxHeartbeats 1000000 in
theorem find17 (v : Value) (M : List Hld) (nm : List UInt8) (w : World) (hM : Reads w 4 v M.length (M.flatMap Hld.cells)) :
    Calls Try.prog 53 #[v, .string ⟨nm.toArray⟩] w fun e w' => FindOut M nm e ∧ w = w' := by
  obtain ⟨a, c, rfl⟩ := hM.form
  have hmx : M.length ≤ maxLen := by
    rcases hM.2 with ⟨_, h0⟩ | ⟨_, _, cap, _, h1, h2, _⟩
    · omega
    · omega
  have HM := Lib.hid hM
  obtain ⟨n, hn⟩ : ∃ n, n = M.length := ⟨_, rfl⟩
  have HN := Lib.hid hn
  rw [← hn] at HM hmx ⊢
  unfold maxLen at hmx
  clear hM hn
  go_enter Try.func53, Try.ntmps53
  go_wp2_with fail
  go_loopw [5, 8] (fun _ i wr => ∃ k : Nat, k ≤ n ∧ i = .int .i64 k ∧ Hid (∀ h ∈ M.take k, h.name ≠ nm) ∧ wr = w) (fun _ i _ => n - (intOf i).toNat)
  case atStart => exact ⟨0, by omega, rfl, by simp [Hid], rfl⟩
  case round =>
    obtain ⟨k, hk, rfl, hz, rfl⟩ := hrel
    by_cases hlt : k < n
    · obtain ⟨x, hx⟩ : ∃ x, M[k]? = some x := ⟨_, List.getElem?_eq_getElem (by rw [← HN.out]; exact hlt)⟩
      obtain ⟨g, o, rfl, c0, _⟩ := hold_cells HM.out HN.out k x hx
      have HX := Lib.hid hx
      have hst : Hid (x.name ≠ nm → ∀ h ∈ M.take (k + 1), h.name ≠ nm) := fun hne h hh => by
        rw [List.take_add_one, HX.out] at hh
        rcases List.mem_append.1 hh with hh | hh
        · exact hz.out h hh
        · obtain rfl : h = x := by simpa using hh
          exact hne
      clear hx
      by_cases he : x.name = nm
      · have hb : (x.name == nm) = true := by simpa using he
        have HE := Lib.hid he
        clear he
        go_wp2_with fail
        go_ret
        exact ⟨⟨k, rfl, .inr ⟨k, x, rfl, HX.out, HE.out⟩⟩, rfl⟩
      · have hb : (x.name == nm) = false := by simpa using he
        have HS := Lib.hid (hst.out he)
        clear he hst
        go_wp2_with fail
        exact ⟨⟨k + 1, by omega, rfl, HS.out, trivial⟩, by simp only [intOf]; omega⟩
    · obtain rfl : k = n := by omega
      rw [HN.out, List.take_length] at hz
      go_wp2_with fail
      go_ret
      exact ⟨⟨-1, rfl, .inl ⟨rfl, hz.out⟩⟩, rfl⟩
def rangeB (lo hi : Int) : Bool := decide (0 ≤ lo ∧ lo < hi ∧ hi ≤ 1099511627777)
set_option maxRecDepth 100000 in
theorem right17 (lo hi : Int) (w : World) :
    Calls Try.prog 55 #[.agg #[.int .i64 lo, .int .i64 hi]] w fun e w' => e = .returned (.bool (rangeB lo hi)) ∧ Chg (fun _ => False) w w' := by
  unfold rangeB
  by_cases h1 : 0 ≤ lo
  · by_cases h2 : lo < hi
    · by_cases h3 : hi ≤ 1099511627777
      · rw [decide_eq_true ⟨h1, h2, h3⟩]
        go_enter Try.func55, Try.ntmps55
        go_wp2_with fail
        go_ret
        exact ⟨rfl, (Chg.refl _ w).alloc _⟩
      · rw [decide_eq_false (fun h => h3 h.2.2)]
        go_enter Try.func55, Try.ntmps55
        go_wp2_with fail
        go_ret
        exact ⟨rfl, (Chg.refl _ w).alloc _⟩
    · rw [decide_eq_false (fun h => h2 h.2.1)]
      go_enter Try.func55, Try.ntmps55
      go_wp2_with fail
      go_ret
      exact ⟨rfl, (Chg.refl _ w).alloc _⟩
  · rw [decide_eq_false (fun h => h1 h.1)]
    go_enter Try.func55, Try.ntmps55
    go_wp2_with fail
    go_ret
    exact ⟨rfl, (Chg.refl _ w).alloc _⟩
end Go.Proofs.Ytjhkhdockiocgaa
