/- Layer 17: lives, what a table has. -/
import Derived.Test.YtjhkhdockiocgaaHold4
namespace Go.Proofs.Ytjhkhdockiocgaa
open Go.RowKit Go.Cat

theorem has_none {k : Lit} {h : Hld} : ¬ Has (.map []) k h := fun e => by
  have := e (.map [])
  simp [DataW.atKey, encH] at this
theorem has_put {D : HD} (hD : Maps.IsMap D) {s : List UInt8} {h : Hld} {k' : Lit} {h' : Hld} (x : Has (D.put (.string s) (encH h)) k' h') : (k' = .string s ∧ h' = h) ∨ Has D k' h' := by
  by_cases e : k' = .string s
  · subst e
    left
    refine ⟨rfl, ?_⟩
    have h1 := x (.map [])
    rw [Maps.atKey_put_same hD (by trivial)] at h1
    exact (encH_inj h1).symm
  · right
    intro zd
    rw [← x zd, Maps.atKey_put_other e]
theorem put_has {D : HD} (hD : Maps.IsMap D) (s : List UInt8) (h : Hld) : Has (D.put (.string s) (encH h)) (.string s) h := fun zd => Maps.atKey_put_same hD (by trivial) _ _

set_option maxRecDepth 100000 in
set_option maxHeartbeats 1000000 in
theorem lives17 (w : World) : Calls Try.prog 51 #[] w fun e w' => e = .returned (.bool true) ∧ Chg (fun _ => False) w w' := by
  go_enter Try.func51, Try.ntmps51
  go_wp2_with fail
  refine (new_tab w).mono ?_
  rintro e w1 ⟨b, rfl, t1, c1⟩
  have T1 := Lib.hid t1
  clear t1
  go_wp2_with fail
  refine (add_any w1 _ b _ 0 ⟨[104], [99, 112, 117], 10, 20⟩ T1.out (by omega) (by simp [maxLen])).mono ?_
  have hcode : addCode (.map []) ⟨[104], [99, 112, 117], 10, 20⟩ = 0 := by decide +kernel
  rw [hcode, addTab_yes hcode]
  rintro e w2 ⟨rfl, t2, c2⟩
  have T2 := Lib.hid t2
  clear t2 T1
  have hM : Maps.IsMap (.map [] : HD) := Maps.isMap_empty
  have iff : ∀ (s : List UInt8) (x : Int), (∃ k h, Has ((DataW.map [] : HD).put (.string [104]) (encH ⟨[104], [99, 112, 117], 10, 20⟩)) k h ∧ (h.of s ∧ h.lo ≤ x ∧ x < h.hi)) ↔ (s = [99, 112, 117] ∧ 10 ≤ x ∧ x < 20) := by
    intro s x
    constructor
    · rintro ⟨k, h, h1, h2, h3, h4⟩
      rcases has_put hM h1 with ⟨_, rfl⟩ | h5
      · rcases h2 with h2 | h2
        · cases h2
        · exact ⟨h2.symm, h3, h4⟩
      · exact (has_none h5).elim
    · rintro ⟨rfl, h1, h2⟩
      exact ⟨_, _, put_has hM _ _, .inr rfl, h1, h2⟩
  have IFF := Lib.hid iff
  clear iff
  have C1 := Lib.hid (covers_any w2 _ b _ _ [99, 112, 117] 19 T2.out)
  go_wp2_with fail
  refine C1.out.mono ?_
  rintro e w3 ⟨r, rfl, hr, c3⟩
  obtain rfl : r = true := hr.2 ((IFF.out _ _).2 ⟨rfl, by omega, by omega⟩)
  have C2 := Lib.hid (covers_any w3 _ b _ _ [99, 112, 117] 20 (T2.out.kept c3 (fun _ _ h => h)))
  clear hr
  go_wp2_with fail
  refine C2.out.mono ?_
  rintro e w4 ⟨r, rfl, hr, c4⟩
  obtain rfl : r = false := by
    cases r
    · rfl
    · have := (IFF.out _ _).1 (hr.1 rfl); omega
  have C3 := Lib.hid (covers_any w4 _ b _ _ [109, 101, 109] 19 (T2.out.kept (c3.trans c4) (fun _ _ h => h)))
  clear hr
  go_wp2_with fail
  refine C3.out.mono ?_
  rintro e w5 ⟨r, rfl, hr, c5⟩
  obtain rfl : r = false := by
    cases r
    · rfl
    · have := ((IFF.out _ _).1 (hr.1 rfl)).1; cases this
  clear hr
  go_wp2_with fail
  go_ret
  exact ⟨rfl, (((c1.new c2 (fun k hk => hk)).trans c3).trans c4).trans c5⟩

end Go.Proofs.Ytjhkhdockiocgaa
