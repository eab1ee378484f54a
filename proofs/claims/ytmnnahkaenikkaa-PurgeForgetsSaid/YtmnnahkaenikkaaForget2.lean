/- Nothing hangs on the values that went: plain words, to the end. -/
import Derived.Test.YtmnnahkaenikkaaForget
namespace Go.Proofs.Ytmnnahkaenikkaa
open Go.RowKit Go.Cat
variable {lo hi : Int}
theorem inR_rel {l l' : List Pt} (h : l.map (bl lo hi) = l'.map (bl lo hi)) (a b : Int) : (inR l a b).map (bl lo hi) = (inR l' a b).map (bl lo hi) := filter_rel (fun x => by rw [bl_tk]) h
theorem outR_rel {l l' : List Pt} (h : l.map (bl lo hi) = l'.map (bl lo hi)) (a b : Int) : (outR l a b).map (bl lo hi) = (outR l' a b).map (bl lo hi) := filter_rel (fun x => by rw [bl_tk]) h
theorem bl_out {p : Pt} (h : ¬ (lo ≤ p.tk ∧ p.tk < hi)) : bl lo hi p = p := if_neg h
theorem bm_out {t : Nat} {a : Ag} (h : ¬ (covF t lo ≤ a.tk ∧ a.tk < covT t hi)) : bm lo hi t a = a := if_neg h
theorem bm_in {t : Nat} {a : Ag} (h : covF t lo ≤ a.tk ∧ a.tk < covT t hi) : bm lo hi t a = ⟨a.tk, a.cnt, 0, 0, 0⟩ := if_pos h
theorem Rel.agg {s s' : St} (h : Rel lo hi s s') {t : Nat} (ht : t = 1 ∨ t = 2) : (s.agg t).map (bm lo hi t) = (s'.agg t).map (bm lo hi t) ∧ s.mk_ t = s'.mk_ t := by
  rcases ht with rfl | rfl
  · exact ⟨h.mid, h.m1⟩
  · exact ⟨h.long, h.m2⟩
theorem cnts_rel {l l' : List Ag} {t : Nat} (h : l.map (bm lo hi t) = l'.map (bm lo hi t)) : l.map Ag.cnt = l'.map Ag.cnt := by
  have e : ∀ l : List Ag, l.map Ag.cnt = (l.map (bm lo hi t)).map Ag.cnt := fun l => by
    rw [List.map_map]
    exact List.map_congr_left (fun x _ => (bm_cnt t x).symm)
  rw [e l, e l', h]
/-- The aggregate of a window: the same but for what is blind. -/
theorem of_rel (h0 : 0 ≤ lo) (hlh : lo < hi) {s s' : St} (h : Rel lo hi s s') {t : Nat} (ht : t = 1 ∨ t = 2) {x : Int} (hx : x % wid t = 0) :
    (s.of t x (x + wid t)).map (bm lo hi t) = (s'.of t x (x + wid t)).map (bm lo hi t) := by
  rcases ht with rfl | rfl
  · have hr := inR_rel h.raw x (x + wid 1)
    have hl := len_rel hr
    show (ofW x (inR s.raw x (x + wid 1))).map _ = (ofW x (inR s'.raw x (x + wid 1))).map _
    unfold ofW
    by_cases hn : inR s.raw x (x + wid 1) = []
    · have hn' : inR s'.raw x (x + wid 1) = [] := List.eq_nil_of_length_eq_zero (by rw [← hl, hn]; rfl)
      rw [if_pos hn, if_pos hn']
    · have hn' : ¬ inR s'.raw x (x + wid 1) = [] := fun e => hn (List.eq_nil_of_length_eq_zero (by rw [hl, e]; rfl))
      rw [if_neg hn, if_neg hn']
      simp only [Option.map_some]
      congr 1
      by_cases hc : covF 1 lo ≤ x ∧ x < covT 1 hi
      · rw [bm_in (by rw [ofP_tk]; exact hc), bm_in (by rw [ofP_tk]; exact hc), ofP_tk, ofP_tk, ofP_cnt hl]
      · have fx : ∀ l : List Pt, ∀ p ∈ inR l x (x + wid 1), bl lo hi p = p := fun l p hp => by
          have := (List.mem_filter.1 hp).2
          rw [decide_eq_true_eq] at this
          exact bl_out (out_mid h0 hlh hx hc this.1 this.2)
        rw [eq_of_fix hr (fx _) (fx _)]
  · have hr : (s.mid.filter (mtR 1 x (x + wid 2))).map (bm lo hi 1) = (s'.mid.filter (mtR 1 x (x + wid 2))).map (bm lo hi 1) := filter_rel (fun a => by unfold mtR; rw [bm_tk]) h.mid
    obtain ⟨c1, c2⟩ := jall_cnt (cnts_rel hr)
    show (joinA x (s.mid.filter (mtR 1 x (x + wid 2)))).map _ = (joinA x (s'.mid.filter (mtR 1 x (x + wid 2)))).map _
    unfold joinA
    rw [c1]
    split
    · simp only [Option.map_some]
      congr 1
      by_cases hc : covF 2 lo ≤ x ∧ x < covT 2 hi
      · rw [bm_in (a := { (jall _).1 with tk := x }) hc, bm_in (a := { (jall (s'.mid.filter (mtR 1 x (x + wid 2)))).1 with tk := x }) hc]
        show Ag.mk x (jall _).1.cnt 0 0 0 = Ag.mk x (jall _).1.cnt 0 0 0
        rw [c2]
      · have fx : ∀ u : St, Inv u → ∀ a ∈ u.mid.filter (mtR 1 x (x + wid 2)), bm lo hi 1 a = a := fun u hu a ha => by
          obtain ⟨ha1, ha2⟩ := List.mem_filter.1 ha
          obtain ⟨k1, k2, k3⟩ := hu.midOk a ha1
          unfold mtR at ha2
          rw [decide_eq_true_eq] at ha2
          have e1 : wid 1 = 300 := rfl
          have e2 : wid 2 = 3600 := rfl
          refine bm_out (fun hcov => ?_)
          have hcov2 := cov_sub h0 hlh hcov
          refine hc ⟨?_, ?_⟩
          · have m := wst_mod 2 lo
            unfold covF at hcov2 ⊢
            rw [e1] at k3 ha2
            rw [e2] at hx ha2 m
            omega
          · have m := wst_mod 2 (hi - 1)
            unfold covT at hcov2 ⊢
            rw [e1] at k3 ha2
            rw [e2] at hx ha2 m hcov2 ⊢
            omega
        rw [eq_of_fix hr (fx s h.i1) (fx s' h.i2)]
    · rfl
theorem soon_rel {s s' : St} (h : Rel lo hi s s') (t : Nat) : s.soon t = s'.soon t := by
  unfold St.soon
  split
  · rw [h.m1]
    exact find_rel (fun x => by rw [bl_tk]) (fun x => bl_tk x) h.raw
  · rw [h.m2]
    exact find_rel (fun x => by rw [bm_tk]) (fun x => bm_tk 1 x) h.mid
theorem win_rel (h0 : 0 ≤ lo) (hlh : lo < hi) {s s' : St} (h : Rel lo hi s s') {t : Nat} (ht : t = 1 ∨ t = 2) (x : Int) : bm lo hi t (s.win t x) = bm lo hi t (s'.win t x) := by
  have e := of_rel h0 hlh h ht (wst_mod t x)
  unfold St.win
  cases e1 : s.of t (wst t x) (wst t x + wid t) <;> cases e2 : s'.of t (wst t x) (wst t x + wid t) <;> rw [e1, e2] at e
  all_goals first
    | rfl
    | (simp at e; done)
    | (simp only [Option.map_some, Option.some.injEq] at e; exact e)
theorem Rel.tier {s s' : St} (h : Rel lo hi s s') {t : Nat} (ht : t = 1 ∨ t = 2) {l l' : List Ag} {m : Int} (hl : l.map (bm lo hi t) = l'.map (bm lo hi t)) (j1 : Inv (s.tier t l m)) (j2 : Inv (s'.tier t l' m)) : Rel lo hi (s.tier t l m) (s'.tier t l' m) := by
  rcases ht with rfl | rfl
  · exact ⟨h.raw, hl, h.long, rfl, h.m2, j1, j2⟩
  · exact ⟨h.raw, h.mid, hl, h.m1, rfl, j1, j2⟩
theorem Rel.rolled (h0 : 0 ≤ lo) (hlh : lo < hi) {t : Nat} (ht : t = 1 ∨ t = 2) {q : Int} (hq : q % wid t = 0) (hq2 : q ≤ 1099511627776) : ∀ (f : Nat) {s s' : St} (md : Int), Rel lo hi s s' → Rel lo hi (rolledF f t q s md).1 (rolledF f t q s' md).1
  | 0, s, s', md, h => h
  | f + 1, s, s', md, h => by
    have j1 := inv_rolled ht hq hq2 (f + 1) md h.i1
    have j2 := inv_rolled ht hq hq2 (f + 1) md h.i2
    obtain ⟨ha, hm⟩ := h.agg ht
    have hs := soon_rel h t
    have hl := len_rel ha
    by_cases hd : q ≤ s.mk_ t
    · rw [rolled_done hd, rolled_done (by rw [← hm]; exact hd)]
      exact h
    · have hd' : ¬ q ≤ s'.mk_ t := by rw [← hm]; exact hd
      cases e : s.soon t with
      | none =>
        rw [rolled_none hd e] at j1 ⊢
        rw [rolled_none hd' (by rw [← hs]; exact e)] at j2 ⊢
        simp only [setM_tier] at j1 j2 ⊢
        exact h.tier ht ha j1 j2
      | some nx =>
        have e' : s'.soon t = some nx := by rw [← hs]; exact e
        by_cases hn : q ≤ nx
        · rw [rolled_past hd e hn] at j1 ⊢
          rw [rolled_past hd' e' hn] at j2 ⊢
          simp only [setM_tier] at j1 j2 ⊢
          exact h.tier ht ha j1 j2
        · by_cases hf : 256 ≤ (s.agg t).length
          · rw [rolled_full hd e hn hf] at j1 ⊢
            rw [rolled_full hd' e' hn (by rw [← hl]; exact hf)] at j2 ⊢
            rw [← hm] at j2 ⊢
            simp only [setM_tier] at j1 j2 ⊢
            exact h.tier ht ha j1 j2
          · rw [rolled_step hd e hn hf, rolled_step hd' e' hn (by rw [← hl]; exact hf)]
            obtain ⟨n1, n2, n3⟩ := soon_mem h.i1 e
            have hwx := wst_next hq (show nx < q by omega)
            obtain ⟨w0, w1, w2⟩ := wst_le (t := t) n2
            have iv : ∀ u : St, Inv u → u.mk_ t ≤ nx → ¬ 256 ≤ (u.agg t).length → Inv (u.tier t (u.agg t ++ [u.win t nx]) (wst t nx + wid t)) := fun u hu hk hlen => by
              obtain ⟨i1, i2, i3, i4⟩ := hu.mkOk t ht
              have hwp := wid_pos t
              refine hu.tier t ht (i1.push (by omega) ?_ ?_ ?_) (by rw [List.length_append]; simp; omega) ⟨by omega, by omega⟩
              · rcases win_tk u t nx n2 with e | e <;> omega
              · rcases win_tk u t nx n2 with e | e <;> omega
              · rcases win_tk u t nx n2 with e | e
                · rw [e]; exact wst_mod _ _
                · rw [e]; simp
            refine Rel.rolled h0 hlh ht hq hq2 f _ (h.tier ht ?_ (iv s h.i1 n1 hf) (iv s' h.i2 (by rw [← hm]; exact n1) (by rw [← hl]; exact hf)))
            rw [List.map_append, List.map_append, ha]
            simp only [List.map_cons, List.map_nil]
            rw [win_rel h0 hlh h ht nx]
theorem Rel.roll (h0 : 0 ≤ lo) (hlh : lo < hi) {s s' : St} (h : Rel lo hi s s') (now : Int) : Rel lo hi (s.roll now).2.2 (s'.roll now).2.2 := by
  unfold St.roll
  split
  · exact h
  · rename_i hn
    have w1 := wst_le (t := 1) (x := now) (by omega)
    have r1 : Rel lo hi (rolledS 1 (wst 1 now) s).1 (rolledS 1 (wst 1 now) s').1 := by
      unfold rolledS
      rw [← (h.agg (.inl rfl)).2]
      exact h.rolled h0 hlh (.inl rfl) (wst_mod 1 now) (by omega) _ 0
    have b1 := r1.i1.b1
    have w2 := wst_le (t := 2) (x := (rolledS 1 (wst 1 now) s).1.m1) b1.1
    show Rel lo hi (rolledS 2 (wst 2 (rolledS 1 (wst 1 now) s).1.m1) (rolledS 1 (wst 1 now) s).1).1 (rolledS 2 (wst 2 (rolledS 1 (wst 1 now) s').1.m1) (rolledS 1 (wst 1 now) s').1).1
    rw [← r1.m1]
    have em := (r1.agg (t := 2) (.inr rfl)).2
    have gg := r1.rolled h0 hlh (.inr rfl) (wst_mod 2 (rolledS 1 (wst 1 now) s).1.m1) (Int.le_trans w2.2.1 b1.2) (wst 2 (rolledS 1 (wst 1 now) s).1.m1 - (rolledS 1 (wst 1 now) s).1.mk_ 2).toNat 0
    unfold rolledS at em gg ⊢
    rw [← em]
    exact gg
theorem key_eq {t : Nat} {x x' : Ag} (e : bm lo hi t x = bm lo hi t x') : x.tk = x'.tk := by rw [← bm_tk (lo := lo) (hi := hi) t x, e, bm_tk]
theorem again_rel (h0 : 0 ≤ lo) (hlh : lo < hi) {s s' : St} (h : Rel lo hi s s') {t : Nat} (ht : t = 1 ∨ t = 2) (a b : Int) : (s.againL t a b).map (bm lo hi t) = (s'.againL t a b).map (bm lo hi t) := by
  obtain ⟨ha, hm⟩ := h.agg ht
  refine filterMap_rel ha (fun x hx x' e => ?_)
  have ek := key_eq e
  unfold St.anew
  rw [ek]
  split
  · obtain ⟨i1, -⟩ := h.i1.mkOk t ht
    have := (i1 x hx).2.2
    rw [ek] at this
    exact of_rel h0 hlh h ht this
  · simp only [Option.map_some, e]
theorem setA_tier (s : St) {t : Nat} (ht : t = 1 ∨ t = 2) (l : List Ag) : s.setA t l = s.tier t l (s.mk_ t) := by rcases ht with rfl | rfl <;> rfl
theorem Rel.again (h0 : 0 ≤ lo) (hlh : lo < hi) {s s' : St} (h : Rel lo hi s s') {t : Nat} (ht : t = 1 ∨ t = 2) (a b : Int) : Rel lo hi (s.setA t (s.againL t a b)) (s'.setA t (s'.againL t a b)) := by
  have j1 := again_ok h.i1 t ht a b
  have j2 := again_ok h.i2 t ht a b
  have e := (h.agg ht).2
  rw [setA_tier _ ht] at j1 j2 ⊢
  rw [setA_tier _ ht]
  rw [← e] at j2 ⊢
  exact h.tier ht (again_rel h0 hlh h ht a b) j1 j2
theorem Rel.cut {s s' : St} (h : Rel lo hi s s') (a b : Int) : Rel lo hi (s.cut a b) (s'.cut a b) := ⟨outR_rel h.raw a b, h.mid, h.long, h.m1, h.m2, inv_cut h.i1 a b, inv_cut h.i2 a b⟩
theorem Rel.purge (h0 : 0 ≤ lo) (hlh : lo < hi) {s s' : St} (h : Rel lo hi s s') (a b : Int) : Rel lo hi (s.purge a b).2 (s'.purge a b).2 := by
  unfold St.purge
  split
  · exact ((h.cut a b).again h0 hlh (.inl rfl) a b).again h0 hlh (.inr rfl) a b
  · exact h
theorem Rel.play (h0 : 0 ≤ lo) (hlh : lo < hi) {g : Pt → Pt} (hg : ∀ p, bl lo hi (g p) = bl lo hi p) {s s' : St} (h : Rel lo hi s s') (a : Act16) : Rel lo hi (playS id s a) (playS g s' a) := by
  unfold playS
  split
  · refine h.put ?_
    rw [List.map_map, List.map_map]
    exact List.map_congr_left (fun p _ => (hg p).symm)
  · split
    · exact h.roll h0 hlh _
    · split
      · exact h.purge h0 hlh _ _
      · exact h
theorem rel_playL (h0 : 0 ≤ lo) (hlh : lo < hi) {g : Pt → Pt} (hg : ∀ p, bl lo hi (g p) = bl lo hi p) (L : List Act16) : Rel lo hi (playL id L) (playL g L) := by
  unfold playL
  suffices H : ∀ (L : List Act16) (s s' : St), Rel lo hi s s' → Rel lo hi (L.foldl (playS id) s) (L.foldl (playS g) s') from H L _ _ ⟨rfl, rfl, rfl, rfl, rfl, inv_new, inv_new⟩
  intro L
  induction L with
  | nil => intro s s' h; exact h
  | cons a r ih => intro s s' h; exact ih _ _ (h.play h0 hlh hg a)
theorem anew_same {s s' : St} {t : Nat} {x x' : Ag} (e : bm lo hi t x = bm lo hi t x') (ho : ∀ y, s.of t y (y + wid t) = s'.of t y (y + wid t)) : s.anew t lo hi x = s'.anew t lo hi x' := by
  have ek := key_eq e
  unfold St.anew
  rw [ek]
  split
  · exact ho _
  · rename_i hc
    rw [bm_out (by rw [ek]; exact hc), bm_out hc] at e
    rw [e]
theorem forgets (h0 : 0 ≤ lo) (hlh : lo < hi) {s s' : St} (h : Rel lo hi s s') : s.purged lo hi = s'.purged lo hi := by
  have hraw : outR s.raw lo hi = outR s'.raw lo hi := eq_of_fix (outR_rel h.raw lo hi) (fun p hp => bl_out (fun hh => by
    have := (List.mem_filter.1 hp).2; simp at this; omega)) (fun p hp => bl_out (fun hh => by have := (List.mem_filter.1 hp).2; simp at this; omega))
  have hmid : (s.cut lo hi).againL 1 lo hi = (s'.cut lo hi).againL 1 lo hi := filterMap_same (h.mid) (fun x _ x' e => anew_same e (fun y => by
    show ofW y (inR (outR s.raw lo hi) y _) = ofW y (inR (outR s'.raw lo hi) y _)
    rw [hraw]))
  have hlong : ((s.cut lo hi).setA 1 ((s.cut lo hi).againL 1 lo hi)).againL 2 lo hi = ((s'.cut lo hi).setA 1 ((s'.cut lo hi).againL 1 lo hi)).againL 2 lo hi := filterMap_same (h.long) (fun x _ x' e => anew_same e (fun y => by
    show joinA y (((s.cut lo hi).againL 1 lo hi).filter _) = joinA y (((s'.cut lo hi).againL 1 lo hi).filter _)
    rw [hmid]))
  have e1 : s.purged lo hi = ⟨outR s.raw lo hi, (s.cut lo hi).againL 1 lo hi, ((s.cut lo hi).setA 1 ((s.cut lo hi).againL 1 lo hi)).againL 2 lo hi, s.m1, s.m2⟩ := rfl
  have e2 : s'.purged lo hi = ⟨outR s'.raw lo hi, (s'.cut lo hi).againL 1 lo hi, ((s'.cut lo hi).setA 1 ((s'.cut lo hi).againL 1 lo hi)).againL 2 lo hi, s'.m1, s'.m2⟩ := rfl
  rw [e1, e2, hraw, hlong, hmid, h.m1, h.m2]
end Go.Proofs.Ytmnnahkaenikkaa
