/- Pack, whether it is the last sector or not; what was packed is unpacked. -/
import Derived.Test.YtjhkhdockiocgaaStamp4
namespace Go.Proofs.Ytjhkhdockiocgaa
open Go.RowKit Go.Cat

theorem pack_any (T P : Nat) (L : Bool) (dv : Value) (d : List UInt8) (w : World) (ht : T < 4294967296) (hp : P < 4294967296) (h0 : T ≠ 0) (hd : d.length ≤ 47) (hv : RB w dv d) :
    Calls Try.prog 78 #[.agg #[.int .u32 T, .int .u32 P, .bool L, dv]] w fun e w' => ∃ v', e = .returned (.tuple #[v', .int .i64 0]) ∧ OB w' v' (packOf T P L d) ∧ Chg (fun _ => False) w w' ∧ Fresh w v' := by
  cases L
  · exact pack_more T P dv d w ht hp h0 hd hv
  · exact pack_last T P dv d w ht hp h0 hd hv
theorem unpack_pack (v : Value) (w : World) (T P : Nat) (L : Bool) (d l : List UInt8) (hv : RB w v l) (hT : T < 4294967296) (hP : P < 4294967296) (h0 : T ≠ 0) (hd : d.length ≤ 47) (hlp : l = packOf T P L d) :
    Calls Try.prog 115 #[v] w fun e w' => ∃ dv', e = .returned (.tuple #[.agg #[.int .u32 T, .int .u32 P, .bool L, dv'], .int .i64 0]) ∧ RB w' dv' d ∧ Chg (fun _ => False) w w' := by
  subst hlp
  refine (unpack_ok v w _ hv (pack_len hd) (pack_some hT h0) (pack_alike hd) (pack_clean hd hT h0)).mono ?_
  rintro e w' ⟨dv, rfl, h1, _, h2⟩
  have e1 : decide (128 ≤ ofBe (((packOf T P L d).drop 8).take 1)) = L := by
    rw [pack_num hd]; cases L
    · exact decide_eq_false (by simp; omega)
    · exact decide_eq_true (by simp)
  refine ⟨dv, ?_, ?_, h2⟩
  · rw [e1, pack_t, ofBe_be T 4 (by omega), pack_p, ofBe_be P 4 (by omega)]
  · rw [pack_mod hd, pack_d hd, List.take_left' rfl] at h1
    exact h1.rb
theorem turn_pack (v : Value) (w : World) (T P : Nat) (L : Bool) (d l : List UInt8) (hv : RB w v l) (hT : T < 4294967296) (h0 : T ≠ 0) (hd : d.length ≤ 47) (hlp : l = packOf T P L d) :
    Calls Try.prog 113 #[v] w fun e w' => e = .returned (.int .u32 T) ∧ Chg (fun _ => False) w w' := by
  subst hlp
  refine (turn_ok v w _ hv (pack_len hd) (pack_some hT h0) (pack_alike hd) (pack_clean hd hT h0)).mono ?_
  rintro e w' ⟨rfl, h2⟩
  rw [pack_t, ofBe_be T 4 (by omega)]
  exact ⟨rfl, h2⟩
end Go.Proofs.Ytjhkhdockiocgaa
