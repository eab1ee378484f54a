/- A region that only reads, in the body of a range over a function: what holds of it everywhere holds there. No program is named. -/
import Derived.Test.YtjhkhdockiocgaaT
import Derived.OrdersIn
import Derived.TacticsIn
import Derived.ControlIn
import Derived.RangeFuncCalls
namespace Go.Cat
open Go.RowKit
variable {P : Program} {ops : Array Oper} {Q : Exit → Act → World → Prop}
/-- The post without a panic, and within the memory. -/
def NoPO (Q : Exit → Act → World → Prop) : Exit → Act → World → Prop
  | .panic _, _, _ => False
  | .outgrown, _, _ => False
  | e, a, w => Q e a w
theorem nopo_normal {a : Act} {w : World} (h : Q .normal a w) : NoPO Q .normal a w := h
theorem nopo {F : Fence} {n : Nat} {c : Code} {a : Act} {w : World} (h : c.wpIn F n P (NoPO Q) a w) : c.wpIn F n P Q a w :=
  Code.wpIn_mono (fun e a w q => by cases e <;> first | exact q | exact q.elim) h
theorem oper_to {o : Oper} {a : Act} {w : World} {K : Act → World → Prop} (l n : Nat) (hd : ∀ c, o.op ≠ .defer c) (h : o.wp P a w K Q) : o.wpIn (Fence.wide.inRound l) n P a w K Q := by
  refine ⟨fun _ _ => trivial, ?_⟩
  rw [Fence.inRound_round, Oper.semAt_some _ _ _ hd]
  unfold Oper.wp at h
  generalize (execOp a.eval o).run P w = r at *
  cases r with
  | ok x w' =>
    cases x with
    | row r a => exact ⟨(fun hx => by cases hx), fun c cs _ => let ⟨v, w2, r1, r2⟩ := h c cs; ⟨v, w2, r1, stepsIn_wide.2 r2⟩⟩
    | enter f args => exact ⟨(fun hx => by cases hx), CallsIn.inRound l (callsIn_wide.2 h)⟩
    | round _ _ _ _ _ => exact h.elim
    | _ => exact h
  | halt x w' => cases x <;> exact h
theorem wpAny_to (l n : Nat) (hL : ¬ LetsOut Q) (hd : ∀ (i : Nat) (o : Oper), ops[i]? = some o → ∀ c, o.op ≠ .defer c) :
    ∀ (fuel : Nat) (listed : Array Bool) (a : Act) (w : World), wpAny P .any ops Q fuel listed a w → wpAnyIn (Fence.wide.inRound l) n P .any ops Q fuel listed a w
  | 0, _, _, _, h => h
  | fuel + 1, _, _, _, h => ⟨h.1, fun i hi => by
    have h2 := wpOp_mono (fun a' w' h' => wpAny_to l n hL hd fuel _ a' w' h') (h.2 i hi)
    unfold wpOp at h2
    unfold wpOpIn
    cases ho : ops[i]? with
    | none => rw [ho] at h2; exact h2
    | some o =>
      rw [ho] at h2
      simp only at h2 ⊢
      split
      · rename_i hw
        rw [if_pos hw] at h2
        rcases h2 with h2 | h2
        · exact oper_to l n (hd i o ho) h2
        · exact absurd h2.2 hL
      · rename_i hw
        rw [if_neg hw] at h2
        exact ⟨fun _ _ => trivial, h2⟩⟩
theorem noOut : ¬ LetsOut (NoPO Q) := fun ⟨_, _, h⟩ => h
/-- The region, walked as everywhere. -/
theorem region_to {id : Nat} {a : Act} {w : World} {l : List Oper} (lp n : Nat) (T : Nat → Prop) (m : Nat) (hm : P.follows .mixedOrders = true) (hn : l.length = m) (hd : ∀ o ∈ l, ∀ c, o.op ≠ .defer c)
    (h : wpT P l.toArray (NoPO Q) T m (Array.replicate m false) a w.drew) : (Code.region id l.toArray true).wpIn (Fence.wide.inRound lp) n P Q a w := by
  subst hn
  refine nopo (wpIn_region_any hm ?_)
  have h1 := wpAny_of_held _ _ _ _ h
  have mem : ∀ (i : Nat) (o : Oper), l.toArray[i]? = some o → o ∈ l := fun i o ho => List.mem_of_getElem? (by simpa using ho)
  have := wpAny_to lp n noOut (fun i o ho => hd o (mem i o ho)) _ _ _ _ h1
  simpa using this
def noDefer (o : Oper) : Bool := match o.op with
  | .defer _ => false
  | _ => true
theorem nodefer {l : List Oper} (h : l.all noDefer = true) : ∀ o ∈ l, ∀ c, o.op ≠ .defer c := fun o ho c e => by
  have := List.all_eq_true.1 h o ho
  unfold noDefer at this
  rw [e] at this
  cases this
end Go.Cat
