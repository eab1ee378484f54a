/- The law HoldCovers, its walk. -/
import Derived.Test.YtncgeeaifacapaaHold4
namespace Go.Proofs.Ytncgeeaifacapaa
open Go.RowKit Go.Cat

theorem has_none {k : Lit} {h : Hld} : ¬ Has (.map []) k h := fun e => by
  have := e (.map [])
  simp [DataW.atKey, encH] at this
theorem has_put {D : HD} (hD : Maps.IsMap D) {s : List UInt8} {h : Hld} {k' : Lit} {h' : Hld} (x : Has (D.put (.string s) (encH h)) k' h') : (k' = .string s ∧ h' = h) ∨ Has D k' h' := by
  by_cases e : k' = .string s
  · subst e
    left
    refine ⟨rfl, ?_⟩
    have h1 := x (.map [])
    rw [Maps.atKey_put_same hD (by trivial)] at h1
    exact (encH_inj h1).symm
  · right
    intro zd
    rw [← x zd, Maps.atKey_put_other e]
theorem put_has {D : HD} (hD : Maps.IsMap D) (s : List UInt8) (h : Hld) : Has (D.put (.string s) (encH h)) (.string s) h := fun zd => Maps.atKey_put_same hD (by trivial) _ _

set_option maxRecDepth 100000 in
set_option maxHeartbeats 1000000 in
theorem lives17 (w : World) : Calls Try.prog 21 #[] w fun e w' => e = .returned (.bool true) ∧ Chg (fun _ => False) w w' := by
  go_enter Try.func21, Try.ntmps21
  go_wp2_with fail
  refine (new_tab w).mono ?_
  rintro e w1 ⟨b, rfl, t1, c1⟩
  have T1 := Lib.hid t1
  clear t1
  go_wp2_with fail
  refine (add_any w1 _ b _ 0 ⟨[104], [99, 112, 117], 10, 20⟩ T1.out (by omega) (by simp [maxLen])).mono ?_
  have hcode : addCode (.map []) ⟨[104], [99, 112, 117], 10, 20⟩ = 0 := by decide +kernel
  rw [hcode, addTab_yes hcode]
  rintro e w2 ⟨rfl, t2, c2⟩
  have T2 := Lib.hid t2
  clear t2 T1
  have hM : Maps.IsMap (.map [] : HD) := Maps.isMap_empty
  have iff : ∀ (s : List UInt8) (x : Int), (∃ k h, Has ((DataW.map [] : HD).put (.string [104]) (encH ⟨[104], [99, 112, 117], 10, 20⟩)) k h ∧ (h.of s ∧ h.lo ≤ x ∧ x < h.hi)) ↔ (s = [99, 112, 117] ∧ 10 ≤ x ∧ x < 20) := by
    intro s x
    constructor
    · rintro ⟨k, h, h1, h2, h3, h4⟩
      rcases has_put hM h1 with ⟨_, rfl⟩ | h5
      · rcases h2 with h2 | h2
        · cases h2
        · exact ⟨h2.symm, h3, h4⟩
      · exact (has_none h5).elim
    · rintro ⟨rfl, h1, h2⟩
      exact ⟨_, _, put_has hM _ _, .inr rfl, h1, h2⟩
  have IFF := Lib.hid iff
  clear iff
  have C1 := Lib.hid (covers_any w2 _ b _ _ [99, 112, 117] 19 T2.out)
  go_wp2_with fail
  refine C1.out.mono ?_
  rintro e w3 ⟨r, rfl, hr, c3⟩
  obtain rfl : r = true := hr.2 ((IFF.out _ _).2 ⟨rfl, by omega, by omega⟩)
  have C2 := Lib.hid (covers_any w3 _ b _ _ [99, 112, 117] 20 (T2.out.kept c3 (fun _ _ h => h)))
  clear hr
  go_wp2_with fail
  refine C2.out.mono ?_
  rintro e w4 ⟨r, rfl, hr, c4⟩
  obtain rfl : r = false := by
    cases r
    · rfl
    · have := (IFF.out _ _).1 (hr.1 rfl); omega
  have C3 := Lib.hid (covers_any w4 _ b _ _ [109, 101, 109] 19 (T2.out.kept (c3.trans c4) (fun _ _ h => h)))
  clear hr
  go_wp2_with fail
  refine C3.out.mono ?_
  rintro e w5 ⟨r, rfl, hr, c5⟩
  obtain rfl : r = false := by
    cases r
    · rfl
    · have := ((IFF.out _ _).1 (hr.1 rfl)).1; cases this
  clear hr
  go_wp2_with fail
  go_ret
  exact ⟨rfl, (((c1.new c2 (fun k hk => hk)).trans c3).trans c4).trans c5⟩

set_option maxRecDepth 100000 in
set_option maxHeartbeats 4000000 in
theorem covers_go (v : Value) (L : List Hld) (s : List UInt8) (fr n8 : Nat) (w : World) (hv : Reads w 4 v L.length (L.flatMap Hld.cells)) (hl : L.length ≤ 20) (hs : s.length ≤ 60) (hfr : fr < 4294967296) (hn8 : n8 < 256) :
    Calls Try.prog 5 #[v, .string ⟨s.toArray⟩, .int .u32 fr, .int .u8 n8] w fun e w' => e = .returned (.bool true) ∧ Chg (fun _ => False) w w' := by
  obtain ⟨va, vc, rfl⟩ := hv.form
  have g1 : ¬ (20 : Int) < L.length := by omega
  have g2 : ¬ (60 : Int) < s.length := by omega
  obtain ⟨n, hn⟩ : ∃ n, n = L.length := ⟨_, rfl⟩
  have HV := Lib.hid hv
  rw [← hn] at hl g1 HV ⊢
  have HN := Lib.hid hn
  clear hv hn
  go_enter Try.func5, Try.ntmps5
  go_wp2_with fail
  refine (lives17 w).mono ?_
  rintro e w1 ⟨rfl, c1⟩
  go_wp2_with fail
  refine (new_tab w1).mono ?_
  rintro e w2 ⟨b, rfl, t2, c2⟩
  have T2 := Lib.hid t2
  have c02 := c1.trans c2
  have z1 := c1.size
  clear t2 g1 g2
  go_wp2_with fail
  go_loopw [31] (fun i wr => ∃ (k : Nat) (D : HD), k ≤ n ∧ i = .int .i64 k ∧ Hid (TabAt wr (fun q => w1.heap.size ≤ q) b D k) ∧ Hid (Chg (fun _ => False) w wr)) (fun i _ => n - (intOf i).toNat)
  case atStart =>
    exact ⟨0, _, by omega, rfl, T2.out, c02⟩
  case round =>
    obtain ⟨k, D, hk, rfl, hT, hC⟩ := hrel
    by_cases hlt : k < n
    · obtain ⟨it, hit⟩ : ∃ it, L[k]? = some it := ⟨_, List.getElem?_eq_getElem (by rw [← HN.out]; exact hlt)⟩
      have hkI : (k : Int) < n := by omega
      have hvr := HV.out.kept hC.out (fun _ _ h => h)
      obtain ⟨g, o, rfl⟩ : ∃ g o, va = some ⟨g, o, none⟩ := by
        rcases hvr.2 with ⟨hv, h0⟩ | ⟨g, o, c', hv, _⟩
        · omega
        · simp only [Value.slice.injEq] at hv; exact ⟨g, o, hv.1⟩
      have hcell : ∀ c u, c < 4 → it.cells[c]? = some u → wr.cell? ⟨g, o + (k * 4 + c), none⟩ = some u := by
        intro c u hc hu
        rcases hvr.2 with ⟨hv, h0⟩ | ⟨g', o', c', hv, _, _, _, h4⟩
        · simp at hv
        · simp only [Value.slice.injEq, Option.some.injEq, Addr.mk.injEq, and_true] at hv
          obtain ⟨⟨rfl, rfl⟩, _⟩ := hv
          exact h4 (k * 4 + c) u (by rw [rows_at (s := 4) (f := Hld.cells) L (fun _ _ => rfl) k c it hit hc]; exact hu)
      obtain ⟨nm, sr, lo, hi⟩ := it
      have a0 : wr.cell? ⟨g, o + k * 4, none⟩ = some (.string ⟨nm.toArray⟩) := hcell 0 _ (by omega) rfl
      have a1 : wr.cell? ⟨g, o + k * 4 + 1, none⟩ = some (.string ⟨sr.toArray⟩) := hcell 1 _ (by omega) rfl
      have a2 : wr.cell? ⟨g, o + k * 4 + 2, none⟩ = some (.int .i64 lo) := hcell 2 _ (by omega) rfl
      have a3 : wr.cell? ⟨g, o + k * 4 + 3, none⟩ = some (.int .i64 hi) := hcell 3 _ (by omega) rfl
      have hw1 : wrap64 ((k : Int) + 1) = (k : Int) + 1 := by unfold wrap64; omega
      clear hvr hcell hit
      by_cases h60 : 60 < nm.length
      · have i60 : (60 : Int) < nm.length := by omega
        go_wp2_with fail
        go_ret
        exact ⟨rfl, hC.out.alloc _⟩
      · have i60 : ¬ (60 : Int) < nm.length := by omega
        by_cases h61 : 60 < sr.length
        · have i61 : (60 : Int) < sr.length := by omega
          go_wp2_with fail
          go_ret
          exact ⟨rfl, hC.out.alloc _⟩
        · have i61 : ¬ (60 : Int) < sr.length := by omega
          have AD := Lib.hid (fun w h => add_any w (fun q => w1.heap.size ≤ q) b D k ⟨nm, sr, lo, hi⟩ h (by omega) (by simp only [maxLen]; omega))
          go_wp2_with fail
          refine (AD.out _ (hT.out.kept (T := fun _ => False) ((Chg.refl _ wr).alloc _) (fun _ _ h => h))).mono ?_
          rintro e w4 ⟨rfl, t4, c4⟩
          have T4 := Lib.hid t4
          clear t4 AD
          go_wp2_with fail
          exact ⟨⟨k + 1, _, by omega, rfl, T4.out, (hC.out.alloc _).new c4 (fun q hq => by omega)⟩, by simp only [intOf]; omega⟩
    · obtain rfl : k = n := by omega
      clear hlt hk
      have hf0 : wrap64 ((fr : Int) + (n8 : Int) % 200) = (fr : Int) + (n8 : Int) % 200 := by unfold wrap64; omega
      obtain ⟨W, rfl⟩ : ∃ W, W = wr := ⟨_, rfl⟩
      obtain ⟨tt, hto⟩ : ∃ tt : Int, tt = (fr : Int) + (n8 : Int) % 200 := ⟨_, rfl⟩
      have hto1 : (fr : Int) ≤ tt := by omega
      have hto2 : tt ≤ (fr : Int) + 199 := by omega
      have HTO := Lib.hid hto
      rw [← hto] at hf0
      clear hto
      go_wp2_with fail
      rw [← HTO.out]
      obtain ⟨wA, hwA⟩ : ∃ wA, wA = W.alloc (.cells #[.int .i64 fr, .int .i64 tt] 48) := ⟨_, rfl⟩
      have cA : Chg (fun _ => False) W wA := by rw [hwA]; exact (Chg.refl _ W).alloc _
      have hhA : wA.heap[W.heap.size]? = some (.cells #[.int .i64 fr, .int .i64 tt] 48 (0, 0)) := by rw [hwA]; exact heap_at_new _ _ _ rfl
      rw [← hwA]
      have HHA := Lib.hid hhA
      have TA : Hid (TabAt wA (fun q => w1.heap.size ≤ q) b D k) := hT.out.kept cA (fun _ _ h => h)
      have CA : Hid (Chg (fun _ => False) w wA) := hC.out.trans cA
      clear hwA hhA cA hf0
      go_loopw [13, 14] (fun sv av wz => ∃ (q : Bool) (x : Int), sv = .bool q ∧ av = .int .i64 x ∧ (fr : Int) ≤ x ∧ x ≤ tt ∧ Hid (q = true ↔ ∃ t, (fr : Int) ≤ t ∧ t < x ∧ ∃ k h, Has D k h ∧ (h.of s ∧ h.lo ≤ t ∧ t < h.hi)) ∧ Hid (Chg (fun _ => False) wA wz)) (fun _ av _ => (tt - intOf av).toNat)
      case atStart =>
        exact ⟨false, fr, rfl, rfl, Int.le_refl _, hto1, ⟨fun h => (Bool.false_ne_true h).elim, fun ⟨t, h1, h2, _⟩ => by omega⟩, Chg.refl _ _⟩
      case round =>
        obtain ⟨q, x, rfl, rfl, hx1, hx2, hq, hZ⟩ := hrel
        have b0 := Chg.cell (p := ⟨W.heap.size, 0, none⟩) (v := .int .i64 fr) hZ.out (by rw [cell_of_heap HHA.out]; rfl) (fun h => h)
        have b1 := Chg.cell (p := ⟨W.heap.size, 1, none⟩) (v := .int .i64 tt) hZ.out (by rw [cell_of_heap HHA.out]; rfl) (fun h => h)
        have TZ : Hid (TabAt wr (fun q => w1.heap.size ≤ q) b D k) := TA.out.kept hZ.out (fun _ _ h => h)
        have CZ : Hid (Chg (fun _ => False) w wr) := CA.out.trans hZ.out
        by_cases hlt : x < tt
        · have hw1 : wrap64 (x + 1) = x + 1 := by unfold wrap64; omega
          cases q with
          | true =>
            have hq' : Hid (true = true ↔ ∃ t, (fr : Int) ≤ t ∧ t < x + 1 ∧ ∃ k h, Has D k h ∧ (h.of s ∧ h.lo ≤ t ∧ t < h.hi)) := by
              obtain ⟨t, h1, h2, h3⟩ := hq.out.1 rfl
              exact ⟨fun _ => ⟨t, h1, by omega, h3⟩, fun _ => rfl⟩
            go_wp2_with fail
            exact ⟨⟨true, x + 1, rfl, rfl, by omega, by omega, hq', hZ.out⟩, by simp only [intOf]; omega⟩
          | false =>
            have CV := Lib.hid (covers_any wr _ b D k s x TZ.out)
            go_wp2_with fail
            refine CV.out.mono ?_
            rintro e w6 ⟨r, rfl, hr, c6⟩
            have hq' : Hid (r = true ↔ ∃ t, (fr : Int) ≤ t ∧ t < x + 1 ∧ ∃ k h, Has D k h ∧ (h.of s ∧ h.lo ≤ t ∧ t < h.hi)) := by
              constructor
              · intro h
                exact ⟨x, hx1, by omega, hr.1 h⟩
              · rintro ⟨t, h1, h2, h3⟩
                rcases Int.lt_or_eq_of_le (Int.le_of_lt_add_one h2) with h4 | rfl
                · exact absurd (hq.out.2 ⟨t, h1, h4, h3⟩) (by simp)
                · exact hr.2 h3
            clear hr
            go_wp2_with fail
            exact ⟨⟨r, x + 1, rfl, rfl, by omega, by omega, hq', hZ.out.trans c6⟩, by simp only [intOf]; omega⟩
        · obtain rfl : x = tt := by omega
          have ME := Lib.hid (meets_any wr _ b D k s fr x TZ.out)
          go_wp2_with fail
          refine ME.out.mono ?_
          rintro e w6 ⟨r, rfl, hr, c6⟩
          have hrq : r = q := by
            have key : r = true ↔ q = true := by
              rw [hr, hq.out]
              constructor
              · rintro ⟨k, h, h1, h2, h3⟩
                exact ⟨max h.lo fr, by omega, by omega, k, h, h1, h2, by omega, by omega⟩
              · rintro ⟨t, h1, h2, k, h, h3, h4, h5, h6⟩
                exact ⟨k, h, h3, h4, by omega⟩
            cases r <;> cases q <;> simp_all
          subst hrq
          clear hr
          cases r with
          | false =>
            go_wp2_with fail
            go_ret
            exact ⟨rfl, CZ.out.trans c6⟩
          | true =>
            have AN := Lib.hid (any_any w6 _ b D k s (TZ.out.kept c6 (fun _ _ h => h)))
            go_wp2_with fail
            refine AN.out.mono ?_
            rintro e w7 ⟨r, rfl, hr, c7⟩
            obtain rfl : r = true := by
              obtain ⟨t, _, _, k, h, h3, h4, _⟩ := hq.out.1 (by simp)
              exact hr.2 ⟨k, h, h3, h4⟩
            clear hr
            go_wp2_with fail
            go_ret
            exact ⟨rfl, (CZ.out.trans c6).trans c7⟩

set_option maxRecDepth 100000 in
set_option maxHeartbeats 1000000 in
theorem covers_long (a : Option Addr) (n c : Nat) (s : List UInt8) (fr n8 : Int) (w : World) (hl : 20 < n ∨ 60 < s.length) :
    Calls Try.prog 5 #[.slice a n c, .string ⟨s.toArray⟩, .int .u32 fr, .int .u8 n8] w fun e w' => e = .returned (.bool true) ∧ Chg (fun _ => False) w w' := by
  by_cases h1 : 20 < n
  · have g1 : (20 : Int) < n := by omega
    go_enter Try.func5, Try.ntmps5
    go_wp2_with fail
    refine (lives17 w).mono ?_
    rintro e w1 ⟨rfl, c1⟩
    go_wp2_with fail
    refine (lives17 w1).mono ?_
    rintro e w2 ⟨rfl, c2⟩
    go_wp2_with fail
    go_ret
    exact ⟨rfl, c1.trans c2⟩
  · have g1 : ¬ (20 : Int) < n := by omega
    have g2 : (60 : Int) < s.length := by omega
    go_enter Try.func5, Try.ntmps5
    go_wp2_with fail
    refine (lives17 w).mono ?_
    rintro e w1 ⟨rfl, c1⟩
    go_wp2_with fail
    refine (lives17 w1).mono ?_
    rintro e w2 ⟨rfl, c2⟩
    go_wp2_with fail
    go_ret
    exact ⟨rfl, c1.trans c2⟩
theorem covers_all (v : Value) (L : List Hld) (s : List UInt8) (fr n8 : Nat) (w : World) (hv : Reads w 4 v L.length (L.flatMap Hld.cells)) (hfr : fr < 4294967296) (hn8 : n8 < 256) :
    Calls Try.prog 5 #[v, .string ⟨s.toArray⟩, .int .u32 fr, .int .u8 n8] w fun e w' => e = .returned (.bool true) ∧ Chg (fun _ => False) w w' := by
  by_cases h : L.length ≤ 20 ∧ s.length ≤ 60
  · exact covers_go v L s fr n8 w hv h.1 h.2 hfr hn8
  · obtain ⟨a, c, rfl⟩ := hv.form
    exact covers_long a _ c s fr n8 w (by omega)
end Go.Proofs.Ytncgeeaifacapaa
