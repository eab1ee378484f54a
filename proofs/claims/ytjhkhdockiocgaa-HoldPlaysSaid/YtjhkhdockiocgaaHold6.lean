/- Contracts of package hold, of a table that is there: Release, Len, Copy. -/
import Derived.Test.YtjhkhdockiocgaaHold4
import Derived.Test.YtjhkhdockiocgaaLay17
import Derived.Shelf.SlMaps.Clone
import Derived.Ground.SlmcProg
namespace Go.Proofs.Ytjhkhdockiocgaa
open Go.RowKit Go.Cat Go.Shelf

theorem Chg.of_turned {w w' : World} {b : Nat} (h : w.mapTurned w' b) : Chg (fun k => k = b) w w' := by
  have hg := h.grown
  exact (Chg.of_grownBy hg).mono (fun k _ e => (Option.some.inj e).symm)
theorem tab_ne {w : World} {b m : Nat} {T : TypeId} {cs : Array Value} {D : HD} {n : Nat} (hb : w.heap[b]? = some (.cells cs T (0, 0))) (hown : w.ownsMap Try.prog 9 holdR m n D) : ¬ b = m := fun e => by
  obtain ⟨es, cl, hm, _⟩ := hown
  rw [← e, hb] at hm; cases hm
theorem wpList_look {P : Program} {ops : Array Oper} {rest : List Oper} {o : Oper} {a : Act} {w : World} {Q : Exit → Act → World → Prop} (hgd : o.guard = none) (t : TypeId) (m x : Operand) (ok : Bool) (ho : o.op = .lookup t m x ok) (mv key v : Value) (hm : a.eval m = mv) (hx : a.eval x = key)
    (h : (Instr.lookup t mv key ok).run P w = .ok v w) (hk : wpList P ops Q rest (a.put o.dst v) w) : wpList P ops Q (o :: rest) a w :=
  wpList_plain hgd fun _ hK => by
    unfold Oper.wp
    simp [execOp, ho, hm, hx, h, Result.andThen]
    exact hK _ _ hk
set_option maxRecDepth 100000 in
theorem hlen_any (w : World) (Sb : Nat → Prop) (b : Nat) (D : HD) (n : Nat) (ht : TabAt w Sb b D n) :
    Calls Try.prog 59 #[.pointer (some ⟨b, 0, none⟩)] w fun e w' => e = .returned (.int .i64 (Maps.size D : Nat)) ∧ w = w' := by
  obtain ⟨m, T, hb, hown, _, _⟩ := ht
  have x0 : w.cell? ⟨b, 0, none⟩ = some (.map (some m)) := by rw [cell_of_heap hb]; rfl
  have HO := Lib.hid hown
  clear hown hb
  go_enter Try.func59, Try.ntmps59
  go_wp2_with (at_len; refine wpList_len_own _ rfl _ 154 rfl 9 28 Try.underlying154 _ m n D rfl HO.out ?_)
  go_ret
  exact ⟨rfl, rfl⟩
def relTab (D : HD) (s : List UInt8) : HD := if Maps.has D (.string s) = true then D.del (.string s) else D
def relCode (D : HD) (s : List UInt8) : Int := if Maps.has D (.string s) = true then 0 else 7
set_option maxRecDepth 100000 in
set_option maxHeartbeats 1000000 in
theorem release_any (w : World) (Sb : Nat → Prop) (b : Nat) (D : HD) (n : Nat) (s : List UInt8) (ht : TabAt w Sb b D n) (hs : s.length ≤ maxLen) :
    Calls Try.prog 57 #[.pointer (some ⟨b, 0, none⟩), .string ⟨s.toArray⟩] w fun e w' => e = .returned (.int .i64 (relCode D s)) ∧ TabAt w' Sb b (relTab D s) n ∧ Chg Sb w w' := by
  have HT := Lib.hid ht
  obtain ⟨m, T, hb, hown, hSB, hSM⟩ := ht
  have hbm := tab_ne hb hown
  have x0 : w.cell? ⟨b, 0, none⟩ = some (.map (some m)) := by rw [cell_of_heap hb]; rfl
  obtain ⟨x, hx⟩ := look_hold w m n D s hs hown
  have HX := Lib.hid hx
  have HO := Lib.hid hown
  have HB := Lib.hid hb
  have lb := (Array.getElem?_eq_some_iff.1 hb).1
  have lm := hown.lt
  clear hown hb hx
  by_cases hh : Maps.has D (.string s) = true
  · have e1 : relTab D s = D.del (.string s) := if_pos hh
    have e2 : relCode D s = 0 := if_pos hh
    rw [e1, e2]
    have HXX : Hid ((Instr.lookup 154 (.map (some m)) (.string ⟨s.toArray⟩) true).run Try.prog w = .ok (.tuple #[.agg #[.string ⟨x.name.toArray⟩, .string ⟨x.series.toArray⟩, .int .i64 x.lo, .int .i64 x.hi], .bool true]) w) := by
      have := HX.out; rw [hh] at this; exact this
    clear e1 e2 hh HX
    go_enter Try.func57, Try.ntmps57
    obtain ⟨wa, hwa⟩ : ∃ wa, wa = w.alloc (.cells #[.string ⟨x.name.toArray⟩, .string ⟨x.series.toArray⟩, .int .i64 x.lo, .int .i64 x.hi] 28) := ⟨_, rfl⟩
    have ca : Chg (fun _ => False) w wa := by rw [hwa]; exact (Chg.refl _ w).alloc _
    have OA := Lib.hid (owns_kept HO.out ca (fun h => h))
    have HWA := Lib.hid hwa
    have CA := Lib.hid ca
    clear hwa ca
    go_wp2_with (first | (at_lookup; refine wpList_look rfl _ _ _ _ rfl _ _ _ rfl rfl HXX.out ?_) | (at_delete; refine wpList_delete_own _ rfl _ _ 154 9 rfl 28 strKey Try.underlying154 holdR m n D rfl (by rw [← HWA.out]; exact OA.out) _ (.string s) rfl (keyStr s hs) ?_; intro w1 hown1 hturn1))
    rw [← HWA.out] at hturn1
    have ct := Chg.of_turned hturn1
    have HN := Lib.hid hown1
    have CT := Lib.hid ct
    clear hown1 hturn1 ct
    go_wp2_with fail
    go_ret
    have c2 := (CA.out.mono (T := fun k => k = m) (fun _ _ h => h.elim)).trans CT.out
    exact ⟨rfl, ⟨m, T, c2.heap HB.out hbm, HN.out, hSB, hSM⟩, c2.mono (fun k _ h => by subst h; exact hSM)⟩
  · have hh : Maps.has D (.string s) = false := by simpa using hh
    have e1 : relTab D s = D := if_neg (by rw [hh]; simp)
    have e2 : relCode D s = 7 := if_neg (by rw [hh]; simp)
    rw [e1, e2]
    have HXX : Hid ((Instr.lookup 154 (.map (some m)) (.string ⟨s.toArray⟩) true).run Try.prog w = .ok (.tuple #[.agg #[.string ⟨x.name.toArray⟩, .string ⟨x.series.toArray⟩, .int .i64 x.lo, .int .i64 x.hi], .bool false]) w) := by
      have := HX.out; rw [hh] at this; exact this
    clear e1 e2 hh HX
    go_enter Try.func57, Try.ntmps57
    go_wp2_with (first | (at_lookup; refine wpList_look rfl _ _ _ _ rfl _ _ _ rfl rfl HXX.out ?_))
    go_ret
    have ca : Chg (fun _ => False) w (w.alloc (.cells #[.string ⟨x.name.toArray⟩, .string ⟨x.series.toArray⟩, .int .i64 x.lo, .int .i64 x.hi] 28)) := (Chg.refl _ w).alloc _
    exact ⟨rfl, HT.out.kept ca (fun _ _ h => h), ca.mono (fun _ _ h => h.elim)⟩
set_option maxRecDepth 100000 in
set_option maxHeartbeats 1000000 in
theorem copy_any (w : World) (Sb : Nat → Prop) (b : Nat) (D : HD) (n : Nat) (ht : TabAt w Sb b D n) :
    Calls Try.prog 58 #[.pointer (some ⟨b, 0, none⟩)] w fun e w' => ∃ c, e = .returned (.pointer (some ⟨c, 0, none⟩)) ∧ TabAt w' (fun k => w.heap.size ≤ k) c D n ∧ Chg (fun _ => False) w w' := by
  obtain ⟨m, T, hb, hown, _, _⟩ := ht
  have x0 : w.cell? ⟨b, 0, none⟩ = some (.map (some m)) := by rw [cell_of_heap hb]; rfl
  have hcon := AnyW.maps_Clone_owns Try.cloneH 9 holdR m n D w hown
  change Calls Try.prog 91 _ _ _ at hcon
  have HC := Lib.hid hcon
  clear hown hb hcon
  go_enter Try.func58, Try.ntmps58
  go_wp2_with (go_at_call 91; refine HC.out.mono ?_; rintro e w1 ⟨rfl, h1, _, hB⟩; have H1 := Lib.hid h1; have HB := Lib.hid hB; clear h1 hB)
  go_ret
  have ca : Chg (fun _ => False) w1 (w1.alloc (.cells #[.map (some w.heap.size)] 156)) := (Chg.refl _ w1).alloc _
  have cb : Chg (fun _ => False) w w1 := (Chg.of_below HB.out).mono (fun k hk h => by omega)
  exact ⟨_, rfl, ⟨w.heap.size, _, heap_at_new _ _ _ rfl, owns_kept H1.out ca (fun h => h), HB.out.size, Nat.le_refl _⟩, cb.trans ca⟩
end Go.Proofs.Ytjhkhdockiocgaa
