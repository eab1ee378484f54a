/- Proves: a record's sectors, set down and shaken, join to the record or to nothing. For all arguments; no condition. -/
import Derived.Test.YtncgeeaifacapaaRows
import Derived.Test.YtncgeeaifacapaaL09b
import Derived.Test.YtncgeeaifacapaaL09c
import Derived.Test.YtncgeeaifacapaaL09d
import Derived.Test.YtncgeeaifacapaaRow
namespace Go.Proofs.Ytncgeeaifacapaa
open Go.ChangeShapes Go.WideShapes Go.ChangeAt Go.RowKit Go.Cat
open Go.ChangeMaps (open_string shut_string)
namespace stampJoins

theorem own : ownKnob Try.prog.godebug = none := by kernel_rfl
theorem laidOut : laidOutB Try.prog = true := by kernel_rfl

theorem any (turn place : Nat) (at_ way : Int) (v : Value) (w : World) (l : List UInt8) (hv : RB w v l) (ht : turn < 4294967296) (hp : place < 4294967296)
    (ha0 : 0 ≤ at_) (ha1 : at_ < 256) (hw0 : 0 ≤ way) (hw1 : way < 256) :
    Calls Try.prog 4 #[.int .u32 turn, .int .u32 place, v, .int .u8 at_, .int .u8 way] w fun e w' => e = .returned (.bool true) ∧ Chg (fun _ => False) w w' := by
  by_cases hl : 600 < l.length
  · exact sj_long _ _ _ _ v w l hv hl
  have hl : l.length ≤ 600 := by omega
  by_cases h0 : turn = 0
  · subst h0; exact sj_zero _ _ _ v w l hv hl
  rcases Nat.lt_or_ge (place + max ((l.length + 46) / 47) 1 - 1) 4294967296 with hq | hq
  case inr => exact sj_range turn place _ _ v w l hv hp hl h0 (by omega)
  have hM : 0 < ((max ((l.length + 46) / 47) 1 : Nat) : Int) := by omega
  have hm0 := Int.emod_nonneg at_ (b := ((max ((l.length + 46) / 47) 1 : Nat) : Int)) (by omega)
  have hm1 := Int.emod_lt_of_pos at_ hM
  have hw : way % 3 = 0 ∨ way % 3 = 1 ∨ way % 3 = 2 := by omega
  rcases Nat.eq_zero_or_pos l.length with hz | hne
  · have hone : (max ((l.length + 46) / 47) 1 : Nat) = 1 := by omega
    have hat : at_ % ((max ((l.length + 46) / 47) 1 : Nat) : Int) = 0 := by rw [hone]; omega
    rcases hw with hc | hc | hc
    · exact sj_E3 turn place _ _ v w l hv ht hp hl h0 hq ha0 ha1 hw0 hw1 hz hc ⟨hat, hone⟩
    · exact sj_E1 turn place _ _ v w l hv ht hp hl h0 hq ha0 ha1 hw0 hw1 hz hc hat
    · exact sj_E2 turn place _ _ v w l hv ht hp hl h0 hq ha0 ha1 hw0 hw1 hz hc hat
  · by_cases hat : at_ % ((max ((l.length + 46) / 47) 1 : Nat) : Int) = 0
    · rcases hw with hc | hc | hc
      · by_cases hone : (max ((l.length + 46) / 47) 1 : Nat) = 1
        · exact sj_A3 turn place _ _ v w l hv ht hp hl h0 hq ha0 ha1 hw0 hw1 hne hc ⟨hat, hone⟩
        · exact sj_A1 turn place _ _ v w l hv ht hp hl h0 hq ha0 ha1 hw0 hw1 hne hc ⟨hat, by omega⟩
      · exact sj_D1 turn place _ _ v w l hv ht hp hl h0 hq ha0 ha1 hw0 hw1 hne hc hat
      · exact sj_D2 turn place _ _ v w l hv ht hp hl h0 hq ha0 ha1 hw0 hw1 hne hc hat
    · have hat : 0 < at_ % ((max ((l.length + 46) / 47) 1 : Nat) : Int) := by omega
      rcases hw with hc | hc | hc
      · exact sj_A2 turn place _ _ v w l hv ht hp hl h0 hq ha0 ha1 hw0 hw1 hne hc hat
      · exact sj_B turn place _ _ v w l hv ht hp hl h0 hq ha0 ha1 hw0 hw1 hne hc hat
      · exact sj_C turn place _ _ v w l hv ht hp hl h0 hq ha0 ha1 hw0 hw1 hne hc hat

set_option maxRecDepth 100000 in
theorem lifted (os : Os) (started : os.Started) (H : Type) (enc : TypeId × Value → H) :
    ReturnsInHanded {} Try.checked os 4 .any (Rows.stampJoinsSpec.pre6 enc Try.prog Try.f4 Rows.stampJoinsRow.domain false) (Rows.stampJoinsSpec.post enc Try.prog Try.f4 false true false false) := by
  refine returnsInHanded_of_change (C := Try.checked) own started (by kernel_rfl) Try.func4
    (ChangeSpec.witness6 (enc := enc) (C := Try.checked) false ⟨#[], #[.int .u32 0, .int .u32 0, .slice none 0 0, .int .u8 0, .int .u8 0], []⟩ 8 (by kernel_rfl) (by kernel_rfl) (by kernel_rfl) (by kernel_rfl)) ?_
  intro W base args ds gs before hval0 hW hcnd _
  have hval : ∀ (j : Nat) t v, Try.f4.params[j]? = some t → args[j]? = some v → Value.okWide Try.prog W .any base t v := hval0
  have hW' := hW
  obtain ⟨p, q, hA0, hV, rfl, hfz, hnd⟩ := hW
  have hA : DataW.TrodAll enc Try.prog W 0 (fun _ => true) true Try.f4.params.toList args.toList ds p := hA0
  rw [Try.params4] at hA hval
  obtain ⟨v0, vs0, d0, ds0, p0, q0, hargs, rfl, rfl, h0, r0⟩ := trodAll_cons hA
  obtain ⟨v1, vs1, d1, ds1, p1, q1, rfl, rfl, rfl, h1, r1⟩ := trodAll_cons r0
  obtain ⟨v2, vs2, d2, ds2, p2, q2, rfl, rfl, rfl, h2, r2⟩ := trodAll_cons r1
  obtain ⟨v3, vs3, d3, ds3, p3, q3, rfl, rfl, rfl, h3, r3⟩ := trodAll_cons r2
  obtain ⟨v4, vs4, d4, ds4, p4, q4, rfl, rfl, rfl, h4, r4⟩ := trodAll_cons r3
  obtain ⟨rfl, rfl, rfl⟩ := trodAll_nil r4
  obtain rfl : args = #[v0, v1, v2, v3, v4] := by cases args; simp_all
  obtain ⟨rfl, rfl⟩ := trodVars_none hV
  obtain ⟨a0, rfl, rfl, rfl, w0⟩ := open_int Try.underlying33 (hval 0 33 v0 rfl rfl) h0
  obtain ⟨a1, rfl, rfl, rfl, w1⟩ := open_int Try.underlying33 (hval 1 33 v1 rfl rfl) h1
  have k2 := h2
  have lt2 : ∀ x ∈ p2, x.block < W.heap.size := by obtain ⟨m, hm⟩ := k2; exact DataW.trod_lt m _ _ _ hm
  obtain ⟨l, hl⟩ := open_rb Try.underlying26 Try.underlying5 (by kernel_rfl) (hval 2 26 v2 rfl rfl) h2
  obtain ⟨a3, rfl, rfl, rfl, w3⟩ := open_int Try.underlying5 (hval 3 5 v3 rfl rfl) h3
  obtain ⟨a4, rfl, rfl, rfl, w4⟩ := open_int Try.underlying5 (hval 4 5 v4 rfl rfl) h4
  clear hA0 hval0
  have b0 := bnd_u32 w0
  have b1 := bnd_u32 w1
  have b3 := bnd_u8 w3
  have b4 := bnd_u8 w4
  obtain ⟨t, rfl⟩ := Int.eq_ofNat_of_zero_le b0.1
  obtain ⟨pl, rfl⟩ := Int.eq_ofNat_of_zero_le b1.1
  refine (any t pl a3 a4 v2 W l hl (by omega) (by omega) b3.1 b3.2 b4.1 b4.2).mono fun e W' ⟨he, hc⟩ => ?_
  subst he
  have bel := hc.belowAll
  exact ⟨_, rfl, _, _, _, [], _, [], hW', trodAll_mk1 (shut_bool Try.underlying4 _), (trodAll_cons_mk (shut_int Try.underlying33 w0) (trodAll_cons_mk (shut_int Try.underlying33 w1) (trodAll_cons_mk (Below.trod laidOut (by kernel_rfl) (of_decide_eq_true (by kernel_rfl)) k2 bel lt2) (trodAll_cons_mk (shut_int Try.underlying5 w3) (trodAll_cons_mk (shut_int Try.underlying5 w4) trodAll_mk0))))), rfl, bel.frame _, fun h => by cases h⟩

theorem over : Rows.stampJoinsRow.holds Try.pinned (OpenSpec.ofChange Rows.stampJoinsSpec) :=
  OpenClaim.holds_of_wide 4 Try.f4 rfl rfl rfl rfl rfl rfl rfl ⟨rfl, rfl, rfl, rfl, rfl⟩ rfl rfl rfl rfl rfl (by kernel_rfl) Try.func4 (by kernel_rfl)
    (of_decide_eq_true (by kernel_rfl)) (by unfold Func.isWrapper; first | (rw [if_pos (by decide +kernel)]; kernel_rfl) | (rw [if_neg (by decide +kernel)]; exact ⟨rfl, rfl⟩))
    (fun os started H enc _ => lifted os started H enc)
end stampJoins

theorem StampJoins_holds : Rows.StampJoinsSaid := stampJoins.over
#print axioms StampJoins_holds
end Go.Proofs.Ytncgeeaifacapaa
