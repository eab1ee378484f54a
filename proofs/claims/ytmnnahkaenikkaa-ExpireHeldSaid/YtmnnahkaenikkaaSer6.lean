/- slices.IndexFunc, ContainsFunc at points. -/
import Derived.Test.YtmnnahkaenikkaaSer5
namespace Go.Proofs.Ytmnnahkaenikkaa
open Go.RowKit Go.Cat
set_option maxRecDepth 100000 in
set_option maxHeartbeats 1000000 in
theorem index_put (w : World) (v : Value) (l : List Pt) (h : Pts w v l) (hl : l.length ≤ 1000000)  (f : Pt → Bool) (hf : ∀ W p, Chg (fun _ => False) w W → Calls Try.prog 77 #[.agg #[.int .i64 p.tk, .int .i64 p.val]] W fun e w' => e = .returned (.bool (f p)) ∧ Chg (fun _ => False) W w') :
    Calls Try.prog 76 #[v, .func (.func 77) #[] #[]] w fun e w' => ∃ k : Int, e = .returned (.int .i64 k) ∧ decide (0 ≤ k) = l.any f ∧ Chg (fun _ => False) w w' := by
  obtain ⟨a, c, rfl⟩ := h.form
  obtain ⟨n, hn⟩ : ∃ n, n = l.length := ⟨_, rfl⟩
  have HN := Lib.hid hn
  have H := Lib.hid h
  have HF := Lib.hid hf
  rw [← hn] at H hl ⊢
  obtain ⟨b, hb⟩ : ∃ b, b = l.any f := ⟨_, rfl⟩
  have HB := Lib.hid hb
  rw [← hb]
  clear hn h hf hb
  go_enter Try.func76, Try.ntmps76
  go_wp2_with fail
  go_loopw [8] (fun ci wr => ∃ k : Nat, k ≤ n ∧ ci = .int .i64 k ∧ Hid (∀ (j : Nat) p, j < k → l[j]? = some p → f p = false) ∧ Hid (Chg (fun _ => False) w wr)) (fun ci _ => n - (intOf ci).toNat)
  case atStart => exact ⟨0, by omega, rfl, fun j p hj => by omega, Chg.refl _ _⟩
  case round =>
    obtain ⟨k, hk, rfl, hA, hC⟩ := hrel
    by_cases hlt : k < n
    · obtain ⟨p, hp⟩ := at_lt (show k < l.length by rw [← HN.out]; exact hlt)
      obtain ⟨g, o, rfl, h1, h2, h3⟩ := reads_some (n := n) (by have := H.out; unfold Pts at this; rw [← HN.out] at this; exact this) (by omega)
      have hld := load_pt wr (fun j u hj => hC.out.cell (h3 j u hj) (fun h => h)) hp
      have FC := Lib.hid (HF.out wr p hC.out)
      have HP := Lib.hid hp
      cases hfp : f p with
      | true =>
        rw [hfp] at FC
        have HFP := Lib.hid hfp
        clear h1 h2 h3 hp hfp
        go_wp2_with (first | refine wpList_load rfl 32 _ rfl _ _ rfl hld ?_)
        refine FC.out.mono ?_
        rintro e w2 ⟨rfl, c2⟩
        have C2 := Lib.hid (hC.out.trans c2)
        clear c2 hld
        go_wp2_with fail
        go_ret
        exact ⟨_, rfl, by rw [HB.out, List.any_eq_true.2 ⟨p, List.mem_of_getElem? HP.out, HFP.out⟩]; simp, C2.out⟩
      | false =>
        rw [hfp] at FC
        have HA2 : Hid (∀ (j : Nat) q, j < k + 1 → l[j]? = some q → f q = false) := fun j q hj hq => by
          rcases Nat.lt_or_ge j k with h | h
          · exact hA.out j q h hq
          · obtain rfl : j = k := by omega
            rw [HP.out] at hq; cases hq; exact hfp
        clear h1 h2 h3 hp hfp
        go_wp2_with (first | refine wpList_load rfl 32 _ rfl _ _ rfl hld ?_)
        refine FC.out.mono ?_
        rintro e w2 ⟨rfl, c2⟩
        have C2 := Lib.hid (hC.out.trans c2)
        clear c2 hld
        go_wp2_with fail
        exact ⟨⟨k + 1, by omega, rfl, HA2.out, C2.out⟩, by simp only [intOf]; omega⟩
    · obtain rfl : k = n := by omega
      go_wp2_with fail
      go_ret
      refine ⟨_, rfl, ?_, hC.out⟩
      rw [HB.out]
      have : l.any f = false := Bool.eq_false_iff.2 fun hc => by
        obtain ⟨q, hq, hfq⟩ := List.any_eq_true.1 hc
        obtain ⟨j, hj⟩ := List.getElem?_of_mem hq
        have := hA.out j q (by have := (List.getElem?_eq_some_iff.1 hj).1; rw [HN.out]; exact this) hj
        rw [hfq] at this; cases this
      rw [this]; rfl
set_option maxRecDepth 100000 in
theorem contains_put (w : World) (v : Value) (l : List Pt) (h : Pts w v l) (hl : l.length ≤ 1000000)  (f : Pt → Bool) (hf : ∀ W p, Chg (fun _ => False) w W → Calls Try.prog 77 #[.agg #[.int .i64 p.tk, .int .i64 p.val]] W fun e w' => e = .returned (.bool (f p)) ∧ Chg (fun _ => False) W w') :
    Calls Try.prog 51 #[v, .func (.func 77) #[] #[]] w fun e w' => e = .returned (.bool (l.any f)) ∧ Chg (fun _ => False) w w' := by
  have IX := Lib.hid (index_put w v l h hl  f hf)
  clear h hf
  go_enter Try.func51, Try.ntmps51
  go_wp2_with fail
  refine IX.out.mono ?_
  rintro e w2 ⟨k, rfl, hk, c2⟩
  have HK := Lib.hid hk
  have C2 := Lib.hid c2
  clear hk c2 IX
  go_wp2_with fail
  go_ret
  exact ⟨by rw [← HK.out]; rfl, C2.out⟩
set_option maxRecDepth 100000 in
set_option maxHeartbeats 1000000 in
theorem index_mark (w : World) (v : Value) (l : List Pt) (h : Pts w v l) (hl : l.length ≤ 1000000) (x0 : Value) (f : Pt → Bool) (hf : ∀ W p, Chg (fun _ => False) w W → Calls Try.prog 52 #[.agg #[.int .i64 p.tk, .int .i64 p.val], x0] W fun e w' => e = .returned (.bool (f p)) ∧ Chg (fun _ => False) W w') :
    Calls Try.prog 76 #[v, .func (.func 52) #[] #[x0]] w fun e w' => ∃ k : Int, e = .returned (.int .i64 k) ∧ decide (0 ≤ k) = l.any f ∧ Chg (fun _ => False) w w' := by
  obtain ⟨a, c, rfl⟩ := h.form
  obtain ⟨n, hn⟩ : ∃ n, n = l.length := ⟨_, rfl⟩
  have HN := Lib.hid hn
  have H := Lib.hid h
  have HF := Lib.hid hf
  rw [← hn] at H hl ⊢
  obtain ⟨b, hb⟩ : ∃ b, b = l.any f := ⟨_, rfl⟩
  have HB := Lib.hid hb
  rw [← hb]
  clear hn h hf hb
  go_enter Try.func76, Try.ntmps76
  go_wp2_with fail
  go_loopw [8] (fun ci wr => ∃ k : Nat, k ≤ n ∧ ci = .int .i64 k ∧ Hid (∀ (j : Nat) p, j < k → l[j]? = some p → f p = false) ∧ Hid (Chg (fun _ => False) w wr)) (fun ci _ => n - (intOf ci).toNat)
  case atStart => exact ⟨0, by omega, rfl, fun j p hj => by omega, Chg.refl _ _⟩
  case round =>
    obtain ⟨k, hk, rfl, hA, hC⟩ := hrel
    by_cases hlt : k < n
    · obtain ⟨p, hp⟩ := at_lt (show k < l.length by rw [← HN.out]; exact hlt)
      obtain ⟨g, o, rfl, h1, h2, h3⟩ := reads_some (n := n) (by have := H.out; unfold Pts at this; rw [← HN.out] at this; exact this) (by omega)
      have hld := load_pt wr (fun j u hj => hC.out.cell (h3 j u hj) (fun h => h)) hp
      have FC := Lib.hid (HF.out wr p hC.out)
      have HP := Lib.hid hp
      cases hfp : f p with
      | true =>
        rw [hfp] at FC
        have HFP := Lib.hid hfp
        clear h1 h2 h3 hp hfp
        go_wp2_with (first | refine wpList_load rfl 32 _ rfl _ _ rfl hld ?_)
        refine FC.out.mono ?_
        rintro e w2 ⟨rfl, c2⟩
        have C2 := Lib.hid (hC.out.trans c2)
        clear c2 hld
        go_wp2_with fail
        go_ret
        exact ⟨_, rfl, by rw [HB.out, List.any_eq_true.2 ⟨p, List.mem_of_getElem? HP.out, HFP.out⟩]; simp, C2.out⟩
      | false =>
        rw [hfp] at FC
        have HA2 : Hid (∀ (j : Nat) q, j < k + 1 → l[j]? = some q → f q = false) := fun j q hj hq => by
          rcases Nat.lt_or_ge j k with h | h
          · exact hA.out j q h hq
          · obtain rfl : j = k := by omega
            rw [HP.out] at hq; cases hq; exact hfp
        clear h1 h2 h3 hp hfp
        go_wp2_with (first | refine wpList_load rfl 32 _ rfl _ _ rfl hld ?_)
        refine FC.out.mono ?_
        rintro e w2 ⟨rfl, c2⟩
        have C2 := Lib.hid (hC.out.trans c2)
        clear c2 hld
        go_wp2_with fail
        exact ⟨⟨k + 1, by omega, rfl, HA2.out, C2.out⟩, by simp only [intOf]; omega⟩
    · obtain rfl : k = n := by omega
      go_wp2_with fail
      go_ret
      refine ⟨_, rfl, ?_, hC.out⟩
      rw [HB.out]
      have : l.any f = false := Bool.eq_false_iff.2 fun hc => by
        obtain ⟨q, hq, hfq⟩ := List.any_eq_true.1 hc
        obtain ⟨j, hj⟩ := List.getElem?_of_mem hq
        have := hA.out j q (by have := (List.getElem?_eq_some_iff.1 hj).1; rw [HN.out]; exact this) hj
        rw [hfq] at this; cases this
      rw [this]; rfl
set_option maxRecDepth 100000 in
theorem contains_mark (w : World) (v : Value) (l : List Pt) (h : Pts w v l) (hl : l.length ≤ 1000000) (x0 : Value) (f : Pt → Bool) (hf : ∀ W p, Chg (fun _ => False) w W → Calls Try.prog 52 #[.agg #[.int .i64 p.tk, .int .i64 p.val], x0] W fun e w' => e = .returned (.bool (f p)) ∧ Chg (fun _ => False) W w') :
    Calls Try.prog 51 #[v, .func (.func 52) #[] #[x0]] w fun e w' => e = .returned (.bool (l.any f)) ∧ Chg (fun _ => False) w w' := by
  have IX := Lib.hid (index_mark w v l h hl x0 f hf)
  clear h hf
  go_enter Try.func51, Try.ntmps51
  go_wp2_with fail
  refine IX.out.mono ?_
  rintro e w2 ⟨k, rfl, hk, c2⟩
  have HK := Lib.hid hk
  have C2 := Lib.hid c2
  clear hk c2 IX
  go_wp2_with fail
  go_ret
  exact ⟨by rw [← HK.out]; rfl, C2.out⟩
set_option maxRecDepth 100000 in
theorem putf_c (w : World) (p : Pt) :
    Calls Try.prog 77 #[.agg #[.int .i64 p.tk, .int .i64 p.val]] w fun e w' => e = .returned (.bool (decide (p.tk < 0 ∨ 1099511627776 < p.tk))) ∧ Chg (fun _ => False) w w' := by
  have c1 : Chg (fun _ => False) w (w.alloc (.cells #[.int .i64 p.tk, .int .i64 p.val] 32)) := (Chg.refl _ w).alloc _
  have C1 := Lib.hid c1
  clear c1
  by_cases h1 : p.tk < 0
  · have e : decide (p.tk < 0 ∨ 1099511627776 < p.tk) = true := decide_eq_true (.inl h1)
    rw [e]
    clear e
    go_enter Try.func77, Try.ntmps77
    go_wp2_with fail
    go_ret
    exact ⟨rfl, C1.out⟩
  · by_cases h2 : 1099511627776 < p.tk
    · have e : decide (p.tk < 0 ∨ 1099511627776 < p.tk) = true := decide_eq_true (.inr h2)
      rw [e]
      clear e
      go_enter Try.func77, Try.ntmps77
      go_wp2_with fail
      go_ret
      exact ⟨rfl, C1.out⟩
    · have e : decide (p.tk < 0 ∨ 1099511627776 < p.tk) = false := decide_eq_false (by omega)
      rw [e]
      clear e
      go_enter Try.func77, Try.ntmps77
      go_wp2_with fail
      go_ret
      exact ⟨rfl, C1.out⟩
end Go.Proofs.Ytmnnahkaenikkaa
