/- A region that draws its order, its reading operations taken first as soon as they may come up, each behind the last call. No program is named. -/
import Derived.OrdersHeld
import Derived.Deep.RegionHeld3
import Derived.Deep.QuietTactic
import Derived.BigQuiet
import Derived.Test.YtmnnahkaenikkaaK
namespace Go.Cat
open Go.RowKit
section
variable {P : Program} {ops : Array Oper} {Q : Exit → Act → World → Prop} {md : Region.Mode}

theorem wpAnyH_mono {S S' : World → Prop} (hS : ∀ w, S' w → S w) : ∀ (fuel : Nat) (listed : Array Bool) (a : Act) (w : World), wpAnyH P md ops Q S' fuel listed a w → wpAnyH P md ops Q S fuel listed a w
  | 0, _, _, _, h => h
  | fuel + 1, _, _, _, h => ⟨h.1, fun i hi => wpOp_mono (fun a' w' h' => ⟨hS _ h'.1, wpAnyH_mono hS fuel _ a' w' h'.2⟩) (h.2 i hi)⟩

/-- Whatever order is picked from here on; from this world on only blocks of T may turn. -/
def wpT (P : Program) (ops : Array Oper) (Q : Exit → Act → World → Prop) (T : Nat → Prop) (fuel : Nat) (listed : Array Bool) (a : Act) (w : World) : Prop :=
  wpAnyH P .any ops Q (Chg T w) fuel listed a w

def okTake (ops : Array Oper) (listed : Array Bool) (i : Nat) : Bool :=
  Region.noSelect ops && Region.free .any ops listed i && (Region.ready .any ops listed).contains i

theorem drop_at {l : List Oper} {i : Nat} {o : Oper} {rest : List Oper} (h : l.drop i = o :: rest) : l.toArray[i]? = some o := by
  have : (l.drop i)[0]? = some o := by rw [h]; rfl
  simpa using this

theorem wpT.begin {id : Nat} {a : Act} {w : World} {l : List Oper} (T : Nat → Prop) (n : Nat) (hm : P.follows .mixedOrders = true) (hn : l.length = n) (h : wpT P l.toArray Q T n (Array.replicate n false) a w.drew) : (Code.region id l.toArray true).wp P Q a w := by
  subst hn
  exact wp_region_held hm (by simpa [wpT] using h)

theorem wpT.take {T : Nat → Prop} {fuel : Nat} {listed : Array Bool} {a : Act} {w : World} {l : List Oper} (i : Nat) {oi : Oper} {rest : List Oper} {v : Value} (hi : l.drop i = oi :: rest) (hok : okTake l.toArray listed i = true)
    (hQ : ∀ c a w, Q (.panic c) (a.put oi.dst v) w → Q (.panic c) a w) (hw : Region.wanted oi (yielded l.toArray a.tmps) = true) (hy : ∀ w', Chg T w w' → (execOp a.eval oi).run P w' = .ok (.value v) w')
    (h : wpT P l.toArray Q T fuel (listed.setIfInBounds i true) (a.put oi.dst v) w) : wpT P l.toArray Q T (fuel + 1) listed a w := by
  simp only [okTake, Bool.and_eq_true] at hok
  exact wpAnyH_take (drop_at hi) hok.1.1 hok.1.2 hok.2 hQ (.inl ⟨hw, hy⟩) (Chg.refl _ _) h
theorem wpT.skip {T : Nat → Prop} {fuel : Nat} {listed : Array Bool} {a : Act} {w : World} {l : List Oper} (i : Nat) {oi : Oper} {rest : List Oper} (hi : l.drop i = oi :: rest) (hok : okTake l.toArray listed i = true)
    (hQ : ∀ c a w, Q (.panic c) (a.put oi.dst undef) w → Q (.panic c) a w) (hw : Region.wanted oi (yielded l.toArray a.tmps) = false)
    (h : wpT P l.toArray Q T fuel (listed.setIfInBounds i true) (a.put oi.dst undef) w) : wpT P l.toArray Q T (fuel + 1) listed a w := by
  simp only [okTake, Bool.and_eq_true] at hok
  exact wpAnyH_take (drop_at hi) hok.1.1 hok.1.2 hok.2 hQ (.inr ⟨hw, rfl⟩) (Chg.refl _ _) h
theorem wpT.call {T : Nat → Prop} {fuel : Nat} {listed : Array Bool} {a : Act} {w : World} {l : List Oper} (i : Nat) {oi : Oper} {rest : List Oper} (hi : l.drop i = oi :: rest) (hr : Region.ready .any l.toArray listed = [i])
    (hw : Region.wanted oi (yielded l.toArray a.tmps) = true)
    (h : ∀ K : Act → World → Prop, (∀ a' w', Chg T w w' → wpT P l.toArray Q T fuel (listed.setIfInBounds i true) a' w' → K a' w') → Oper.wp P oi a w K Q) : wpT P l.toArray Q T (fuel + 1) listed a w := by
  refine wpAnyH_all hr (by simp) fun j hj => ?_
  obtain rfl : j = i := by simpa using hj
  unfold wpOp
  simp only [drop_at hi, hw, if_true]
  exact .inl (h _ fun a' w' hc h' => ⟨hc, wpAnyH_mono (fun w'' h'' => hc.trans h'') _ _ _ _ h'⟩)
theorem wpT.done {T : Nat → Prop} {fuel : Nat} {listed : Array Bool} {a : Act} {w : World} (hr : Region.ready .any ops listed = []) (h : Q .normal a w) : wpT P ops Q T fuel listed a w :=
  wpAnyH_done hr h fuel
end
end Go.Cat
