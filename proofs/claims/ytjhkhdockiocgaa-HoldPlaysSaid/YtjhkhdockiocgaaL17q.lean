/- HoldPlays: acts, what the loop holds, marks. -/
import Derived.Test.YtjhkhdockiocgaaL17p
import Derived.Test.YtjhkhdockiocgaaL17a
namespace Go.Cat
open Go.RowKit
theorem leaves_marks {F : Fence} {n : Nat} {P : Program} {fn : Func} {tmps : Array Value} {R : Ending → World → Prop} : ∀ (DS : List Nat) (W : World), DS.Nodup → (∀ D ∈ DS, W.heap[D]? = some (.deferred (some []))) →
    (∀ W', Chg (fun k => k ∈ DS) W W' → ∃ v, (results fn tmps).run P W' = .ok v W' ∧ R (.returned v) W') → LeavesInM F n P fn tmps R (DS.map fun D => { target := .collected D, args := #[] }) .returning W := by
  intro DS
  induction DS with
  | nil => intro W _ _ h; exact h W (Chg.refl _ W)
  | cons D DS ih =>
    intro W hn hd h
    obtain ⟨h1, h2⟩ := List.nodup_cons.1 hn
    have cP : Chg (fun q => q = D) W (W.putObj D (.deferred none)) := ⟨rfl, rfl, rfl, by simp, fun q _ hq => World.putObj_heap_other hq⟩
    refine ⟨by simp, .inl ⟨D, _, rfl, run_takeDeferred (hd D (by simp)), ih _ h2 (fun q hq => ?_) (fun W' hc => h W' ?_)⟩⟩
    · rw [World.putObj_heap_other (fun e => h1 (by rw [← e]; exact hq))]; exact hd q (by simp [hq])
    · exact (cP.mono (fun k _ hk => by have e : k = D := hk; subst e; simp)).trans (hc.mono (fun k _ hk => by simp [hk]))
end Go.Cat
namespace Go.Proofs.Ytjhkhdockiocgaa
open Go.RowKit Go.Cat Go.Maps

structure Act17 where
  kind : Int
  h : Hld
def Act17.cells (a : Act17) : List Value := [.int .i64 a.kind, .string ⟨a.h.name.toArray⟩, .string ⟨a.h.series.toArray⟩, .int .i64 a.h.lo, .int .i64 a.h.hi]
/-- The table D holds just the holds M. -/
structure TM (D : HD) (M : List Hld) : Prop where
  nd : (M.map Hld.name).Nodup
  has : ∀ s, Maps.has D (.string s) = true ↔ ∃ h ∈ M, h.name = s
  at_ : ∀ h ∈ M, Has D (.string h.name) h
  of_ : ∀ k h, Has D k h → h ∈ M ∧ k = .string h.name
  size : Maps.size D = M.length
  nm : ∀ h ∈ M, nameRight h.name = true
theorem TM.nil : TM (.map []) [] := ⟨by simp, fun s => by simp [Maps.has_eq], by simp, fun k h e => (has_none e).elim, rfl, by simp⟩
theorem TM.add {D : HD} {M : List Hld} (t : TM D M) (hT : Maps.Tidy D) {h : Hld} (hn : ∀ x ∈ M, x.name ≠ h.name) (hr : nameRight h.name = true) : TM (D.put (.string h.name) (encH h)) (M ++ [h]) := by
  have hD := hT.isMap
  have hno : Maps.has D (.string h.name) = false := by
    cases e : Maps.has D (.string h.name) with
    | false => rfl
    | true => obtain ⟨x, hx, e2⟩ := (t.has _).1 e; exact absurd e2 (hn x hx)
  refine ⟨?_, fun s => ?_, fun x hx => ?_, fun k x hx => ?_, ?_, fun x hx => ?_⟩
  · rw [List.map_append, List.nodup_append]
    exact ⟨t.nd, by simp, fun a ha b hb e => by
      obtain ⟨x, hx, rfl⟩ := List.mem_map.1 ha
      simp at hb
      exact hn x hx (e.trans hb)⟩
  · by_cases e : s = h.name
    · subst e
      rw [Maps.has_put_same hD (by trivial)]
      simp
    · rw [Maps.has_put_other (fun e2 => e (by simpa using e2)), t.has]
      constructor
      · rintro ⟨x, hx, e2⟩; exact ⟨x, by simp [hx], e2⟩
      · rintro ⟨x, hx, e2⟩
        rcases List.mem_append.1 hx with hx | hx
        · exact ⟨x, hx, e2⟩
        · simp at hx; subst hx; exact absurd e2.symm e
  · rcases List.mem_append.1 hx with hx | hx
    · intro zd
      rw [Maps.atKey_put_other (fun e => hn x hx (by simpa using e))]
      exact t.at_ x hx zd
    · simp at hx; subst hx; exact put_has hD _ _
  · rcases has_put hD hx with ⟨e, rfl⟩ | h2
    · exact ⟨by simp, e⟩
    · exact ⟨List.mem_append.2 (.inl (t.of_ _ _ h2).1), (t.of_ _ _ h2).2⟩
  · rw [Maps.size_put hT, hno, List.length_append, t.size]; rfl
  · rcases List.mem_append.1 hx with hx | hx
    · exact t.nm x hx
    · simp at hx; subst hx; exact hr
theorem TM.del {D : HD} {M : List Hld} (t : TM D M) (hT : Maps.Tidy D) {k : Nat} {h : Hld} (hk : M[k]? = some h) : TM (D.del (.string h.name)) (M.take k ++ M.drop (k + 1)) := by
  have hkl := (List.getElem?_eq_some_iff.1 hk).1
  have hsp : M = M.take k ++ h :: M.drop (k + 1) := by
    have := List.take_append_drop k M
    rw [List.drop_eq_getElem_cons hkl, (List.getElem?_eq_some_iff.1 hk).2] at this
    exact this.symm
  have hmem : ∀ x, x ∈ M ↔ x = h ∨ x ∈ M.take k ++ M.drop (k + 1) := fun x => by
    conv => lhs; rw [hsp]
    simp only [List.mem_append, List.mem_cons]; constructor
    · rintro (a | a | a)
      · exact .inr (.inl a)
      · exact .inl a
      · exact .inr (.inr a)
    · rintro (a | a | a)
      · exact .inr (.inl a)
      · exact .inl a
      · exact .inr (.inr a)
  have hnd := t.nd
  rw [hsp, List.map_append, List.map_cons, List.nodup_append] at hnd
  obtain ⟨n1, n2, n3⟩ := hnd
  obtain ⟨n4, n5⟩ := List.nodup_cons.1 n2
  have hne : ∀ x ∈ M.take k ++ M.drop (k + 1), x.name ≠ h.name := fun x hx e => by
    rcases List.mem_append.1 hx with hx | hx
    · exact n3 x.name (List.mem_map_of_mem hx) h.name (by simp) e
    · exact n4 (e ▸ List.mem_map_of_mem hx)
  refine ⟨?_, fun s => ?_, fun x hx => ?_, fun k' x hx => ?_, ?_, fun x hx => t.nm x ((hmem x).2 (.inr hx))⟩
  · rw [List.map_append, List.nodup_append]
    exact ⟨n1, n5, fun a ha b hb => n3 a ha b (List.mem_cons_of_mem _ hb)⟩
  · by_cases e : s = h.name
    · subst e
      rw [Maps.has_del_same]
      simp only [Bool.false_eq_true, false_iff]
      rintro ⟨x, hx, e⟩
      exact hne x hx e
    · rw [Maps.has_del_other (fun e2 => e (by simpa using e2)), t.has]
      constructor
      · rintro ⟨x, hx, e2⟩
        rcases (hmem x).1 hx with rfl | hx
        · exact absurd e2.symm e
        · exact ⟨x, hx, e2⟩
      · rintro ⟨x, hx, e2⟩; exact ⟨x, (hmem x).2 (.inr hx), e2⟩
  · intro zd
    rw [Maps.atKey_del_other (fun e => hne x hx (by simpa using e))]
    exact t.at_ x ((hmem x).2 (.inr hx)) zd
  · by_cases e : k' = .string h.name
    · subst e
      exfalso
      have h1 := hx (.map [])
      rw [Maps.atKey_del_same] at h1
      simp [encH] at h1
    · have h1 : Has D k' x := fun zd => by rw [← hx zd, Maps.atKey_del_other e]
      obtain ⟨h2, h3⟩ := t.of_ _ _ h1
      rcases (hmem x).1 h2 with rfl | h2
      · exact absurd h3 e
      · exact ⟨h2, h3⟩
  · have h1 := Maps.size_del (k := .string h.name) hT
    rw [(t.has _).2 ⟨h, (hmem h).2 (.inl rfl), rfl⟩, if_pos rfl, t.size] at h1
    rw [List.length_append, List.length_take, List.length_drop]
    omega
theorem TM.keys {D : HD} {M : List Hld} (t : TM D M) {w : World} {m n : Nat} (ho : w.ownsMap Try.prog 9 holdR m n D) : (M.map Hld.name).Perm (strKeys D) := by
  obtain ⟨es, rfl, hk⟩ := ho.keysOf
  obtain ⟨es', e, hp⟩ := ho.tidy strKey
  cases e
  exact perm_strKeys hp (fun p hpm => by
    obtain ⟨key, hkey⟩ := hk p hpm
    obtain ⟨x, _, h2, _⟩ := Maps.keyOf_str Try.underlying9 hkey
    exact ⟨x, h2⟩) t.nd (fun s => by
    rw [t.has]
    constructor
    · intro h; obtain ⟨x, h1, h2⟩ := List.mem_map.1 h; exact ⟨x, h1, h2⟩
    · rintro ⟨x, h1, h2⟩; exact List.mem_map.2 ⟨x, h1, h2⟩)
theorem pick_list {M : List Hld} : ∀ (ss : List (List UInt8)), (∀ s ∈ ss, ∃ h ∈ M, h.name = s) → ∃ xs : List Hld, xs.map Hld.name = ss ∧ ∀ x ∈ xs, x ∈ M
  | [], _ => ⟨[], rfl, by simp⟩
  | s :: ss, h => by
    obtain ⟨xs, h1, h2⟩ := pick_list ss (fun s hs => h s (by simp [hs]))
    obtain ⟨x, h3, h4⟩ := h s (by simp)
    exact ⟨x :: xs, by rw [List.map_cons, h1, h4], fun y hy => by
      rcases List.mem_cons.1 hy with rfl | hy
      · exact h3
      · exact h2 y hy⟩
theorem TM.told {D : HD} {M : List Hld} (t : TM D M) {w : World} {m n : Nat} (ho : w.ownsMap Try.prog 9 holdR m n D) :
    ∃ xs : List Hld, Holds D ((strKeys D).mergeSort leB) xs ∧ xs.length = M.length ∧ (∀ x ∈ xs, x ∈ M) ∧ xs.Pairwise (fun a b => ¬ b.name ≤ a.name) ∧ (strKeys D).length = M.length ∧ ∀ s ∈ strKeys D, s.length ≤ 16 := by
  have hp := t.keys ho
  have hs := List.mergeSort_perm (strKeys D) leB
  have hmem : ∀ s, s ∈ (strKeys D).mergeSort leB → ∃ h ∈ M, h.name = s := fun s h => by
    obtain ⟨x, h1, h2⟩ := List.mem_map.1 (hp.mem_iff.2 (hs.mem_iff.1 h))
    exact ⟨x, h1, h2⟩
  obtain ⟨xs, h1, h2⟩ := pick_list _ hmem
  have hl : (strKeys D).length = M.length := by rw [← hp.length_eq, List.length_map]
  have hlen : xs.length = M.length := by rw [← List.length_map (f := Hld.name), h1, List.length_mergeSort, hl]
  refine ⟨xs, ⟨by rw [hlen, List.length_mergeSort, hl], fun i s x hi hx => ?_⟩, hlen, h2, ?_, hl, fun s hs2 => ?_⟩
  · have : (xs.map Hld.name)[i]? = some x.name := by rw [List.getElem?_map, hx]; rfl
    rw [h1, hi] at this
    have e : s = x.name := by simpa using this
    rw [e]
    exact t.at_ x (h2 x (List.mem_of_getElem? hx))
  · have tr : ∀ a b c : List UInt8, leB a b = true → leB b c = true → leB a c = true := fun a b c h1 h2 => by simp only [leB, decide_eq_true_eq] at *; exact List.le_trans h1 h2
    have tot : ∀ a b : List UInt8, (leB a b || leB b a) = true := fun a b => by simp only [leB, Bool.or_eq_true, decide_eq_true_eq]; exact List.le_total a b
    have hpw := List.pairwise_mergeSort tr tot (strKeys D)
    have hnd : ((strKeys D).mergeSort leB).Nodup := hs.nodup_iff.2 (hp.nodup_iff.1 t.nd)
    rw [← h1] at hpw hnd
    have := List.pairwise_map.1 (hpw.and hnd)
    refine this.imp (fun {a b} h hba => ?_)
    obtain ⟨g1, g2⟩ := h
    simp only [leB, decide_eq_true_eq] at g1
    exact g2 (List.le_antisymm g1 hba)
  · obtain ⟨x, h3, rfl⟩ := List.mem_map.1 (hp.mem_iff.2 hs2)
    have := t.nm x h3
    unfold nameRight at this
    exact (of_decide_eq_true this).2.1
end Go.Proofs.Ytjhkhdockiocgaa
