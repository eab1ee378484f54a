/- purge.unlike: how many aggregates of the one row aren't in the other one. -/
import Derived.Test.YtmnnahkaenikkaaAgKey
namespace Go.Proofs.Ytmnnahkaenikkaa
open Go.RowKit Go.Cat
def unlikeN (was is_ : List Ag) : Nat := (was.filter fun a => !decide (a ∈ is_)).length
theorem ownsC {w w' : World} {S : Nat → Prop} {k : TypeId} {R : Value → Option (HB × List MemPlace)} {b n : Nat} {D : HB} (h : w.ownsMap Try.prog k R b n D) (c : Chg S w w') (hs : ¬ S b) : w'.ownsMap Try.prog k R b n D := by
  obtain ⟨es, clock, hb, r⟩ := h
  exact ⟨es, clock, c.heap hb hs, r⟩
noncomputable abbrev bR : Value → Option (HB × List MemPlace) := plainElem Try.prog 4
theorem bR_mk (x : Bool) : bR (.bool x) = some (.lit (.bool x), []) := plainElem_bool Try.underlying4 x
set_option maxRecDepth 100000 in
theorem bR_inv {v : Value} {x : Bool} {ps : List MemPlace} (h : bR v = some (.lit (.bool x), ps)) : v = .bool x := by
  unfold bR plainElem at h
  rw [Try.underlying4] at h
  cases v <;> simp at h
  rw [h.1]
theorem zeroBool (w : World) : (zeroValue 4).run Try.prog w = .ok (.bool false) w := by kernel_rfl
theorem look_ag {w : World} {b n : Nat} {D : HB} {L : List Ag} (h : w.ownsMap Try.prog 58 bR b n D) (hD : SetOf D L) {p : Ag} (hp : AgWf p) :
    (Instr.lookup 130 (.map (some b)) (.agg p.cells.toArray) false).run Try.prog w = .ok (.bool (decide (p ∈ L))) w := by
  obtain ⟨v, ps, h1, h2⟩ := h.lookup agLaw Try.underlying130 (zeroBool w) (bR_mk false) (key_ag hp)
  rw [hD.2 p hp] at h2
  rw [h1, bR_inv h2]
theorem upd_ag {w : World} {b n : Nat} {D : HB} {L : List Ag} (h : w.ownsMap Try.prog 58 bR b n D) (hD : SetOf D L) (hn : n < maxLen) {p : Ag} (hp : AgWf p) :
    ∃ w', (Instr.mapUpdate 130 (.map (some b)) (.agg p.cells.toArray) (.bool true)).run Try.prog w = .ok () w' ∧ w'.ownsMap Try.prog 58 bR b (n + 1) (D.put (kA p) (.lit (.bool true))) ∧ SetOf (D.put (kA p) (.lit (.bool true))) (L ++ [p]) ∧ Chg (fun k => k = b) w w' := by
  obtain ⟨w', h1, h2, h3⟩ := h.update agLaw Try.underlying130 hn (key_ag hp) (bR_mk true)
  exact ⟨w', h1, h2, hD.put hp, (Chg.of_grownBy h3).mono (fun k _ e => by cases e; rfl)⟩
set_option maxRecDepth 100000 in
set_option maxHeartbeats 2000000 in
theorem unlike_c (w : World) (v1 v2 : Value) (was is_ : List Ag) (h1 : Ags w v1 was) (h2 : Ags w v2 is_) (l1 : was.length ≤ 256) (l2 : is_.length ≤ 256) (f1 : ∀ a ∈ was, AgWf a) (f2 : ∀ a ∈ is_, AgWf a) :
    Calls Try.prog 61 #[v1, v2] w fun e w' => e = .returned (.int .i64 (unlikeN was is_ : Nat)) ∧ Chg (fun _ => False) w w' := by
  obtain ⟨a1, c1, rfl⟩ := h1.form
  obtain ⟨a2, c2, rfl⟩ := h2.form
  obtain ⟨n1, hn1⟩ : ∃ n, n = was.length := ⟨_, rfl⟩
  obtain ⟨n2, hn2⟩ : ∃ n, n = is_.length := ⟨_, rfl⟩
  have H1 := Lib.hid h1
  have H2 := Lib.hid h2
  rw [← hn1] at H1 l1
  rw [← hn2] at H2 l2
  rw [← hn1, ← hn2]
  have HN1 := Lib.hid hn1
  have HN2 := Lib.hid hn2
  have F1 := Lib.hid f1
  have F2 := Lib.hid f2
  have hmm := @run_makeMap Try.prog
  have hM0 := World.ownsMap_made w Try.prog 58 bR
  have HM0 := Lib.hid hM0
  clear h1 h2 hn1 hn2 f1 f2 hM0
  go_enter Try.func61, Try.ntmps61
  go_wp2_with fail
  go_loopw [14] (fun ci wr => ∃ (k : Nat) (D : HB), k ≤ n2 ∧ ci = .int .i64 k ∧ Hid (wr.ownsMap Try.prog 58 bR w.heap.size k D) ∧ Hid (SetOf D (is_.take k)) ∧ Hid (Chg (fun _ => False) w wr)) (fun ci _ => n2 - (intOf ci).toNat)
  case atStart => exact ⟨0, _, by omega, rfl, HM0.out, SetOf.nil, (Chg.refl _ w).alloc _⟩
  case round =>
    obtain ⟨k, D, hk, rfl, hM, hD, hC⟩ := hrel
    clear HM0
    by_cases hlt : k < n2
    · obtain ⟨p, hp⟩ := at_lt (show k < is_.length by rw [← HN2.out]; exact hlt)
      obtain ⟨g, o, rfl, g1, g2, g3⟩ := reads_some (n := n2) (by have := H2.out; unfold Ags at this; rw [← HN2.out] at this; exact this) (by omega)
      have hld := load_agE wr (fun j u hj => hC.out.cell (g3 j u hj) (fun h => h)) hp
      obtain ⟨Wb, hWb⟩ : ∃ W, W = wr.alloc (.cells #[.int .i64 p.tk, .int .i64 p.cnt, .int .i64 p.sum, .int .i64 p.mn, .int .i64 p.mx] 58) := ⟨_, rfl⟩
      have cb : Chg (fun _ => False) wr Wb := by rw [hWb]; exact (Chg.refl _ wr).alloc _
      have hP : AgAt Wb wr.heap.size p := by rw [hWb]; exact ag_new wr p
      have hl9 := hP.load
      have hpw : AgWf p := F2.out p (List.mem_of_getElem? hp)
      obtain ⟨w3, hu, hM3, hD3, c3⟩ := upd_ag (ownsC hM.out cb (fun h => h)) hD.out (by simp only [maxLen]; omega) hpw
      have pv : (Value.agg p.cells.toArray) = .agg #[.int .i64 p.tk, .int .i64 p.cnt, .int .i64 p.sum, .int .i64 p.mn, .int .i64 p.mx] := rfl
      rw [pv] at hu hl9
      rw [hWb] at hu hl9
      have e1 : is_.take (k + 1) = is_.take k ++ [p] := by rw [List.take_add_one, hp]; rfl
      rw [← e1] at hD3
      have HM3 := Lib.hid hM3
      have HD3 := Lib.hid hD3
      have C3 : Hid (Chg (fun _ => False) w w3) := (hC.out.trans cb).new c3 (fun q hq => by omega)
      clear hWb cb hP e1 g1 g2 g3 hp hpw hM3 hD3 c3 pv hM hD
      go_wp2_with (first | refine wpList_load rfl 58 _ rfl _ _ rfl hld ?_ | refine wpList_load rfl 58 _ rfl _ _ rfl hl9 ?_)
      exact ⟨⟨k + 1, _, by omega, rfl, HM3.out, HD3.out, C3.out⟩, by simp only [intOf]; omega⟩
    · obtain rfl : k = n2 := by omega
      have hD : Hid (SetOf D is_) := by have h := hD.out; rw [HN2.out, List.take_length] at h; exact h
      obtain ⟨wo, rfl⟩ : ∃ wo, wo = wr := ⟨_, rfl⟩
      have C0 := Lib.hid hC.out
      go_wp2_with fail
      go_loopw [8, 23] (fun mv ci wr => ∃ k : Nat, k ≤ n1 ∧ ci = .int .i64 k ∧ mv = .int .i64 (unlikeN (was.take k) is_ : Nat) ∧ Hid (Chg (fun _ => False) wo wr)) (fun _ ci _ => n1 - (intOf ci).toNat)
      case atStart => exact ⟨0, by omega, rfl, rfl, Chg.refl _ _⟩
      case round =>
        obtain ⟨k, hk, rfl, rfl, hC⟩ := hrel
        by_cases hlt : k < n1
        · obtain ⟨p, hp⟩ := at_lt (show k < was.length by rw [← HN1.out]; exact hlt)
          obtain ⟨g, o, rfl, g1, g2, g3⟩ := reads_some (n := n1) (by have := H1.out; unfold Ags at this; rw [← HN1.out] at this; exact this) (by omega)
          have hld := load_agE wr (fun j u hj => hC.out.cell (C0.out.cell (g3 j u hj) (fun h => h)) (fun h => h)) hp
          obtain ⟨Wb, hWb⟩ : ∃ W, W = wr.alloc (.cells #[.int .i64 p.tk, .int .i64 p.cnt, .int .i64 p.sum, .int .i64 p.mn, .int .i64 p.mx] 58) := ⟨_, rfl⟩
          have cb : Chg (fun _ => False) wr Wb := by rw [hWb]; exact (Chg.refl _ wr).alloc _
          have hP : AgAt Wb wr.heap.size p := by rw [hWb]; exact ag_new wr p
          have hl9 := hP.load
          have hpw : AgWf p := F1.out p (List.mem_of_getElem? hp)
          have hlk := look_ag (ownsC hM.out (hC.out.trans cb) (fun h => h)) hD.out hpw
          have pv : (Value.agg p.cells.toArray) = .agg #[.int .i64 p.tk, .int .i64 p.cnt, .int .i64 p.sum, .int .i64 p.mn, .int .i64 p.mx] := rfl
          rw [pv] at hlk hl9
          rw [hWb] at hlk hl9
          have e1 : was.take (k + 1) = was.take k ++ [p] := by rw [List.take_add_one, hp]; rfl
          have hul : unlikeN (was.take k) is_ ≤ 256 := by
            have h3 := List.length_filter_le (fun a => !decide (a ∈ is_)) (was.take k)
            have h4 := List.length_take_le k was
            show (List.filter _ _).length ≤ 256
            omega
          have e2 : unlikeN (was.take (k + 1)) is_ = unlikeN (was.take k) is_ + (if p ∈ is_ then 0 else 1) := by
            unfold unlikeN
            rw [e1, List.filter_append, List.length_append]
            congr 1
            by_cases hm : p ∈ is_ <;> simp [hm]
          obtain ⟨u, hu⟩ : ∃ u, u = unlikeN (was.take k) is_ := ⟨_, rfl⟩
          rw [← hu] at e2 hul ⊢
          have C3 : Hid (Chg (fun _ => False) wo Wb) := hC.out.trans cb
          have HWB := Lib.hid hWb
          have hw1 : IntKind.i64.wrap ((u : Int) + 1) = ((u + 1 : Nat) : Int) := by rw [IntWalk.i64_in _ (by omega)]; omega
          have hw2 : wrap64 ((u : Int) + 1) = ((u + 1 : Nat) : Int) := by unfold wrap64; omega
          by_cases hm : p ∈ is_
          · rw [if_pos hm] at e2
            rw [decide_eq_true hm] at hlk
            have E2 := Lib.hid e2
            clear hWb cb hP e1 e2 g1 g2 g3 hp hpw pv hm hu
            go_wp2_with (first | refine wpList_load rfl 58 _ rfl _ _ rfl hld ?_ | refine wpList_load rfl 58 _ rfl _ _ rfl hl9 ?_)
            rw [← HWB.out]
            exact ⟨⟨k + 1, by omega, rfl, by rw [E2.out]; rfl, C3.out⟩, by simp only [intOf]; omega⟩
          · rw [if_neg hm] at e2
            rw [decide_eq_false hm] at hlk
            have E2 := Lib.hid e2
            clear hWb cb hP e1 e2 g1 g2 g3 hp hpw pv hm hu
            go_wp2_with (first | refine wpList_load rfl 58 _ rfl _ _ rfl hld ?_ | refine wpList_load rfl 58 _ rfl _ _ rfl hl9 ?_)
            rw [← HWB.out]
            exact ⟨⟨k + 1, by omega, rfl, by rw [E2.out]; exact congrArg (Value.int .i64) (by omega), C3.out⟩, by simp only [intOf]; omega⟩
        · obtain rfl : k = n1 := by omega
          have e1 : was.take k = was := by rw [HN1.out, List.take_length]
          rw [e1]
          have hC3 := Lib.hid (C0.out.trans hC.out)
          clear e1
          go_wp2_with fail
          go_ret
          exact ⟨rfl, hC3.out⟩
end Go.Proofs.Ytmnnahkaenikkaa
