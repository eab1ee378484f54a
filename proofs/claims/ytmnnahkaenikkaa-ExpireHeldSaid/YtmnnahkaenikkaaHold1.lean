/- Contracts of packages name, window: Right, In, Meets; hold.of. -/
import Derived.Test.YtmnnahkaenikkaaOctet
import Derived.Test.YtmnnahkaenikkaaArr
namespace Go.Proofs.Ytmnnahkaenikkaa
open Go.RowKit Go.Cat

def letterB (x : Nat) : Bool := decide (97 ≤ x ∧ x ≤ 122)
def signB (x : Nat) : Bool := decide ((97 ≤ x ∧ x ≤ 122) ∨ (48 ≤ x ∧ x ≤ 57) ∨ x = 45)
def nameRight (s : List UInt8) : Bool := decide (s ≠ [] ∧ s.length ≤ 16 ∧ letterB (s.headD 0).toNat = true ∧ ∀ c ∈ s, signB c.toNat = true)

set_option maxRecDepth 100000 in
theorem letter_any (x : Nat) (w : World) :
    Calls Try.prog 62 #[.int .u8 x] w fun e w' => e = .returned (.bool (letterB x)) ∧ w = w' := by
  unfold letterB
  by_cases h1 : 97 ≤ x
  · have i1 : (97 : Int) ≤ x := by omega
    by_cases h2 : x ≤ 122
    · have i2 : (x : Int) ≤ 122 := by omega
      rw [decide_eq_true (show 97 ≤ x ∧ x ≤ 122 from ⟨h1, h2⟩)]
      go_enter Try.func62, Try.ntmps62
      go_wp2_with fail
      go_ret
      exact ⟨rfl, rfl⟩
    · have i2 : ¬ (x : Int) ≤ 122 := by omega
      rw [decide_eq_false (show ¬ (97 ≤ x ∧ x ≤ 122) from fun h => h2 h.2)]
      go_enter Try.func62, Try.ntmps62
      go_wp2_with fail
      go_ret
      exact ⟨rfl, rfl⟩
  · have i1 : ¬ (97 : Int) ≤ x := by omega
    rw [decide_eq_false (show ¬ (97 ≤ x ∧ x ≤ 122) from fun h => h1 h.1)]
    go_enter Try.func62, Try.ntmps62
    go_wp2_with fail
    go_ret
    exact ⟨rfl, rfl⟩

set_option maxRecDepth 100000 in
theorem sign_any (x : Nat) (w : World) :
    Calls Try.prog 63 #[.int .u8 x] w fun e w' => e = .returned (.bool (signB x)) ∧ w = w' := by
  by_cases hL : letterB x = true
  · have hx : 97 ≤ x ∧ x ≤ 122 := of_decide_eq_true hL
    have hs : signB x = true := decide_eq_true (.inl hx)
    have HL := Lib.hid (letter_any x w)
    rw [hL] at HL
    rw [hs]
    clear hL hx hs
    go_enter Try.func63, Try.ntmps63
    go_wp2_with (first | (go_at_call 62; refine HL.out.mono ?_; rintro e w' ⟨rfl, rfl⟩))
    go_ret
    exact ⟨rfl, rfl⟩
  · have hx : ¬ (97 ≤ x ∧ x ≤ 122) := fun h => hL (decide_eq_true h)
    have hL' : letterB x = false := by simpa using hL
    have HL := Lib.hid (letter_any x w)
    rw [hL'] at HL
    clear hL hL'
    by_cases h1 : 48 ≤ x ∧ x ≤ 57
    · have i1 : (48 : Int) ≤ x := by omega
      have i2 : (x : Int) ≤ 57 := by omega
      have hs : signB x = true := decide_eq_true (.inr (.inl h1))
      rw [hs]
      clear hs h1 hx
      go_enter Try.func63, Try.ntmps63
      go_wp2_with (first | (go_at_call 62; refine HL.out.mono ?_; rintro e w' ⟨rfl, rfl⟩))
      go_ret
      exact ⟨rfl, rfl⟩
    · by_cases h2 : x = 45
      · subst h2
        go_enter Try.func63, Try.ntmps63
        go_wp2_with (first | (go_at_call 62; refine HL.out.mono ?_; rintro e w' ⟨rfl, rfl⟩))
        go_ret
        exact ⟨rfl, rfl⟩
      · have hs : signB x = false := decide_eq_false (by omega)
        have e2 : ((x : Int) == 45) = false := by simp; omega
        rw [hs]
        by_cases h3 : 48 ≤ x
        · have i1 : (48 : Int) ≤ x := by omega
          have i2 : ¬ (x : Int) ≤ 57 := by omega
          clear hs h1 hx h2 h3
          go_enter Try.func63, Try.ntmps63
          go_wp2_with (first | (go_at_call 62; refine HL.out.mono ?_; rintro e w' ⟨rfl, rfl⟩))
          go_ret
          refine ⟨?_, rfl⟩
          show Ending.returned (.bool (decide ((x : Int) ≤ 57))) = _
          rw [decide_eq_false (by omega)]
        · have i1 : ¬ (48 : Int) ≤ x := by omega
          clear hs h1 hx h2 h3
          go_enter Try.func63, Try.ntmps63
          go_wp2_with (first | (go_at_call 62; refine HL.out.mono ?_; rintro e w' ⟨rfl, rfl⟩))
          go_ret
          exact ⟨rfl, rfl⟩

theorem idx_str (s : List UInt8) (k : Nat) (c : UInt8) (w : World) (hk : s[k]? = some c) : (Instr.index 9 (.string ⟨s.toArray⟩) (.int .i64 k)).run Try.prog w = .ok (.int .u8 c.toNat) w := by
  obtain ⟨h1, h2⟩ := List.getElem?_eq_some_iff.1 hk
  have h3 : (k : Int) < s.length := by omega
  go_simp
  subst h2
  rfl

set_option maxRecDepth 100000 in
set_option maxHeartbeats 1000000 in
theorem right_name (s : List UInt8) (w : World) :
    Calls Try.prog 33 #[.string ⟨s.toArray⟩] w fun e w' => e = .returned (.bool (nameRight s)) ∧ w = w' := by
  by_cases h0 : s = []
  · subst h0
    go_enter Try.func33, Try.ntmps33
    go_wp2_with fail
    go_ret
    exact ⟨rfl, rfl⟩
  · by_cases h1 : 16 < s.length
    · have i1 : (16 : Int) < s.length := by omega
      have hF : nameRight s = false := decide_eq_false (fun h => by omega)
      rw [hF]
      have e0 : (s == []) = false := by simpa using h0
      clear hF h0
      go_enter Try.func33, Try.ntmps33
      go_wp2_with fail
      go_ret
      exact ⟨rfl, rfl⟩
    · have i1 : ¬ (16 : Int) < s.length := by omega
      have e0 : (s == []) = false := by simpa using h0
      obtain ⟨c, r, rfl⟩ : ∃ c r, s = c :: r := by
        cases s with
        | nil => exact absurd rfl h0
        | cons c r => exact ⟨c, r, rfl⟩
      obtain ⟨s, hs⟩ : ∃ s, s = c :: r := ⟨_, rfl⟩
      have hidx : (Instr.index 9 (.string ⟨s.toArray⟩) (.int .i64 0)).run Try.prog w = .ok (.int .u8 c.toNat) w := by
        exact idx_str s 0 c w (by rw [hs]; rfl)
      rw [← hs] at i1 e0 h1 ⊢
      have HS := Lib.hid hs
      have HC := Lib.hid (letter_any c.toNat w)
      clear hs h0
      by_cases hl : letterB c.toNat = true
      · rw [hl] at HC
        have HL := Lib.hid hl
        clear hl
        go_enter Try.func33, Try.ntmps33
        go_wp2_with (first | (go_at_call 62; refine HC.out.mono ?_; rintro e w' ⟨rfl, rfl⟩))
        clear hidx
        go_loopw [3, 19] (fun _ i wr => ∃ k : Nat, k ≤ s.length ∧ i = .int .i64 k ∧ Hid (∀ c ∈ s.take k, signB c.toNat = true) ∧ wr = w) (fun _ i _ => s.length - (intOf i).toNat)
        case atStart =>
          exact ⟨0, by omega, rfl, by simp [Hid], rfl⟩
        case round =>
          obtain ⟨k, hk, rfl, hz, rfl⟩ := hrel
          by_cases hlt : k < s.length
          · obtain ⟨y, hy⟩ : ∃ y, s[k]? = some y := ⟨_, List.getElem?_eq_getElem hlt⟩
            have hidx := idx_str s k y wr hy
            have hkI : (k : Int) < s.length := by omega
            have hw1 : wrap64 ((k : Int) + 1) = (k : Int) + 1 := by unfold wrap64; omega
            have HS1 := Lib.hid (sign_any y.toNat wr)
            by_cases hq : signB y.toNat = true
            · rw [hq] at HS1
              have hz' : Hid (∀ c ∈ s.take (k + 1), signB c.toNat = true) := by
                show ∀ c ∈ _, _
                rw [List.take_add_one, hy]
                intro c hc
                rcases List.mem_append.1 hc with hc | hc
                · exact hz.out c hc
                · obtain rfl : c = y := by simpa using hc
                  exact hq
              clear hq hy
              go_wp2_with (first | (go_at_call 63; refine HS1.out.mono ?_; rintro e w' ⟨rfl, rfl⟩))
              exact ⟨⟨k + 1, by omega, rfl, hz', trivial⟩, by simp only [intOf]; omega⟩
            · have hq' : signB y.toNat = false := by simpa using hq
              rw [hq'] at HS1
              have hF : nameRight s = false := decide_eq_false (fun h => hq (h.2.2.2 y (List.mem_of_getElem? hy)))
              have HF := Lib.hid hF
              clear hq hq' hy hF
              go_wp2_with (first | (go_at_call 63; refine HS1.out.mono ?_; rintro e w' ⟨rfl, rfl⟩))
              go_ret
              rw [HF.out]
              exact ⟨rfl, rfl⟩
          · obtain rfl : k = s.length := by omega
            rw [List.take_length] at hz
            have hT : nameRight s = true := decide_eq_true ⟨by rw [HS.out]; simp, Nat.le_of_not_lt h1, by rw [HS.out]; exact HL.out, hz.out⟩
            have HT := Lib.hid hT
            clear hT
            go_wp2_with fail
            go_ret
            rw [HT.out]
            exact ⟨rfl, rfl⟩
      · have hl' : letterB c.toNat = false := by simpa using hl
        rw [hl'] at HC
        have hF : nameRight s = false := decide_eq_false (fun h => hl (by have := h.2.2.1; rw [HS.out] at this; exact this))
        rw [hF]
        clear hl hl' hF
        go_enter Try.func33, Try.ntmps33
        go_wp2_with (first | (go_at_call 62; refine HC.out.mono ?_; rintro e w' ⟨rfl, rfl⟩))
        go_ret
        exact ⟨rfl, rfl⟩

/-- A hold: name, series, from, to. -/
structure Hld where
  name : List UInt8
  series : List UInt8
  lo : Int
  hi : Int
def Hld.cells (h : Hld) : List Value := [.string ⟨h.name.toArray⟩, .string ⟨h.series.toArray⟩, .int .i64 h.lo, .int .i64 h.hi]
@[simp] theorem Hld.cells_length (h : Hld) : h.cells.length = 4 := rfl
def Hld.right (h : Hld) : Prop := 0 ≤ h.lo ∧ h.lo < h.hi ∧ h.hi ≤ 1099511627777
instance (h : Hld) : Decidable h.right := by unfold Hld.right; infer_instance
def Hld.of (h : Hld) (s : List UInt8) : Prop := h.series = [] ∨ h.series = s
instance (h : Hld) (s : List UInt8) : Decidable (h.of s) := by unfold Hld.of; infer_instance

set_option maxRecDepth 100000 in
theorem window_right (lo hi : Int) (w : World) :
    Calls Try.prog 34 #[.agg #[.int .i64 lo, .int .i64 hi]] w fun e w' => e = .returned (.bool (decide (0 ≤ lo ∧ lo < hi ∧ hi ≤ 1099511627777))) ∧ Chg (fun _ => False) w w' := by
  by_cases h1 : 0 ≤ lo
  · by_cases h2 : lo < hi
    · go_enter Try.func34, Try.ntmps34
      go_wp2_with fail
      go_ret
      refine ⟨?_, (Chg.refl _ w).alloc _⟩
      show Ending.returned (.bool (decide (hi ≤ 1099511627777))) = _
      congr 2
      simp [h1, h2]
    · rw [decide_eq_false (show ¬ (0 ≤ lo ∧ lo < hi ∧ hi ≤ 1099511627777) from fun h => h2 h.2.1)]
      go_enter Try.func34, Try.ntmps34
      go_wp2_with fail
      go_ret
      exact ⟨rfl, (Chg.refl _ w).alloc _⟩
  · rw [decide_eq_false (show ¬ (0 ≤ lo ∧ lo < hi ∧ hi ≤ 1099511627777) from fun h => h1 h.1)]
    go_enter Try.func34, Try.ntmps34
    go_wp2_with fail
    go_ret
    exact ⟨rfl, (Chg.refl _ w).alloc _⟩
set_option maxRecDepth 100000 in
theorem window_in (lo hi at_ : Int) (w : World) :
    Calls Try.prog 82 #[.agg #[.int .i64 lo, .int .i64 hi], .int .i64 at_] w fun e w' => e = .returned (.bool (decide (lo ≤ at_ ∧ at_ < hi))) ∧ Chg (fun _ => False) w w' := by
  by_cases h1 : lo ≤ at_
  · go_enter Try.func82, Try.ntmps82
    go_wp2_with fail
    go_ret
    refine ⟨?_, (Chg.refl _ w).alloc _⟩
    show Ending.returned (.bool (decide (at_ < hi))) = _
    congr 2
    simp [h1]
  · rw [decide_eq_false (show ¬ (lo ≤ at_ ∧ at_ < hi) from fun h => h1 h.1)]
    go_enter Try.func82, Try.ntmps82
    go_wp2_with fail
    go_ret
    exact ⟨rfl, (Chg.refl _ w).alloc _⟩

theorem results_row_tmp2 {P : Program} {fn : Func} {p u : Tmp} {ty : TypeId} (h : fn.results = #[.cell p ty, .tmp u]) (tmps : Array Value) (w : World) (g : Nat) (t : TypeId) (cs : Array Value) (fr : Nat × Nat) (d : TypeDesc)
    (hp : tmps.getD p undef = .pointer (some ⟨g, 0, none⟩)) (hg : w.heap[g]? = some (.cells cs t fr))
    (hu : P.underlying ty = some d) (hd : (match d with | .struct _ | .array _ _ => true | _ => false) = true) (hi : (P.info? ty).map (·.size) = some cs.size) :
    (results fn tmps).run P w = .ok (.tuple #[.agg cs, tmps.getD u undef]) w := by
  have hp' : tmps[p]?.getD undef = .pointer (some ⟨g, 0, none⟩) := by simpa using hp
  simp [results, h, hp', asAddr, run_loadVar_row w g t ty cs fr d hg hu hd hi]

set_option maxRecDepth 100000 in
set_option maxHeartbeats 1000000 in
theorem window_both (a b c d : Int) (w : World) :
    Calls Try.prog 66 #[.agg #[.int .i64 a, .int .i64 b], .agg #[.int .i64 c, .int .i64 d]] w fun e w' => ∃ x y : Int, e = .returned (.tuple #[.agg #[.int .i64 x, .int .i64 y], .bool (decide (max a c < min b d))]) ∧ Chg (fun _ => False) w w' := by
  obtain ⟨x, hx⟩ : ∃ x, x = max a c := ⟨_, rfl⟩
  obtain ⟨y, hy⟩ : ∃ y, y = min b d := ⟨_, rfl⟩
  have hx' : (if a < c then c else a) = x := by rw [hx]; split <;> omega
  have hy' : (if d < b then d else b) = y := by rw [hy]; split <;> omega
  rw [← hx, ← hy]
  clear hx hy
  by_cases h : y ≤ x
  · rw [decide_eq_false (show ¬ x < y by omega)]
    go_enter Try.func66, Try.ntmps66
    go_wp2_with fail
    have hH : ((((w.alloc (.cells #[.int .i64 a, .int .i64 b] 24)).alloc (.cells #[.int .i64 c, .int .i64 d] 24)).alloc (.cells #[.int .i64 0, .int .i64 0] 24)).alloc (.cells #[.int .i64 x, .int .i64 y] 24)).heap[w.heap.size + 1 + 1]? = some (.cells #[.int .i64 0, .int .i64 0] 24 (0, 0)) :=
      Chg.heap ((Chg.refl (fun _ => False) _).alloc _) (heap_at_new _ _ _ (by simp)) (fun h => h)
    refine bodyPost_ret (v := .tuple #[.agg #[.int .i64 0, .int .i64 0], .bool false]) (results_row_tmp2 (fn := Try.f66) (p := 4) (u := 5) (ty := 24) rfl _ _ (w.heap.size + 1 + 1) _ _ (0, 0) _ rfl hH Try.underlying24 rfl (by kernel_rfl)) rfl ?_
    exact ⟨0, 0, rfl, ((((Chg.refl _ w).alloc _).alloc _).alloc _).alloc _⟩
  · rw [decide_eq_true (show x < y by omega)]
    go_enter Try.func66, Try.ntmps66
    go_wp2_with fail
    have hH : ((((w.alloc (.cells #[.int .i64 a, .int .i64 b] 24)).alloc (.cells #[.int .i64 c, .int .i64 d] 24)).alloc (.cells #[.int .i64 x, .int .i64 y] 24)).alloc (.cells #[.int .i64 x, .int .i64 y] 24)).heap[w.heap.size + 1 + 1]? = some (.cells #[.int .i64 x, .int .i64 y] 24 (0, 0)) :=
      Chg.heap ((Chg.refl (fun _ => False) _).alloc _) (heap_at_new _ _ _ (by simp)) (fun h => h)
    refine bodyPost_ret (v := .tuple #[.agg #[.int .i64 x, .int .i64 y], .bool true]) (results_row_tmp2 (fn := Try.f66) (p := 4) (u := 5) (ty := 24) rfl _ _ (w.heap.size + 1 + 1) _ _ (0, 0) _ rfl hH Try.underlying24 rfl (by kernel_rfl)) rfl ?_
    exact ⟨⟨x, y, rfl⟩, ((((Chg.refl _ w).alloc _).alloc _).alloc _).alloc _⟩
set_option maxRecDepth 100000 in
theorem window_meets (a b c d : Int) (w : World) :
    Calls Try.prog 37 #[.agg #[.int .i64 a, .int .i64 b], .agg #[.int .i64 c, .int .i64 d]] w fun e w' => e = .returned (.bool (decide (max a c < min b d))) ∧ Chg (fun _ => False) w w' := by
  obtain ⟨v, hv⟩ : ∃ v, v = decide (max a c < min b d) := ⟨_, rfl⟩
  have HB := Lib.hid (fun w => window_both a b c d w)
  rw [← hv] at HB ⊢
  clear hv
  go_enter Try.func37, Try.ntmps37
  go_wp2_with fail
  refine (HB.out _).mono ?_
  rintro e w1 ⟨x, y, rfl, c1⟩
  go_wp2_with fail
  go_ret
  exact ⟨rfl, ((((Chg.refl _ w).alloc _).alloc _).trans c1).alloc _⟩

set_option maxRecDepth 100000 in
theorem hold_of (h : Hld) (s : List UInt8) (w : World) :
    Calls Try.prog 73 #[.agg h.cells.toArray, .string ⟨s.toArray⟩] w fun e w' => e = .returned (.bool (decide (h.of s))) ∧ Chg (fun _ => False) w w' := by
  obtain ⟨nm, sr, lo, hi⟩ := h
  show Calls Try.prog 73 #[.agg #[.string ⟨nm.toArray⟩, .string ⟨sr.toArray⟩, .int .i64 lo, .int .i64 hi], .string ⟨s.toArray⟩] w _
  unfold Hld.of
  by_cases h0 : sr = []
  · subst h0
    go_enter Try.func73, Try.ntmps73
    go_wp2_with fail
    go_ret
    exact ⟨by simp, (Chg.refl _ w).alloc _⟩
  · have e0 : (sr == []) = false := by simpa using h0
    by_cases h1 : sr = s
    · subst h1
      rw [decide_eq_true (show sr = [] ∨ sr = sr from .inr rfl)]
      clear h0
      go_enter Try.func73, Try.ntmps73
      go_wp2_with fail
      go_ret
      exact ⟨by simp, (Chg.refl _ w).alloc _⟩
    · rw [decide_eq_false (show ¬ (sr = [] ∨ sr = s) from fun h => h.elim h0 h1)]
      have e1 : (sr == s) = false := by simpa using h1
      clear h0 h1
      go_enter Try.func73, Try.ntmps73
      go_wp2_with fail
      go_ret
      exact ⟨by simp, (Chg.refl _ w).alloc _⟩
end Go.Proofs.Ytmnnahkaenikkaa
