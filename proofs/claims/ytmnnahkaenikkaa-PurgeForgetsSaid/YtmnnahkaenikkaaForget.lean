/- Nothing hangs on the values that went: plain words. -/
import Derived.Test.YtmnnahkaenikkaaPlay20
namespace Go.Proofs.Ytmnnahkaenikkaa
open Go.RowKit Go.Cat
theorem inv_put {s : St} (h : Inv s) (l : List Pt) : Inv (s.put l).2.2 := by
  unfold St.put
  split
  · exact h
  · exact { h with tks := sput_tks h.tks }
theorem inv_rolled {t : Nat} (ht : t = 1 ∨ t = 2) {q : Int} (hq : q % wid t = 0) (hq2 : q ≤ 1099511627776) : ∀ (f : Nat) {s : St} (md : Int), Inv s → Inv (rolledF f t q s md).1
  | 0, s, md, h => h
  | f + 1, s, md, h => by
    obtain ⟨i1, i2, i3, i4⟩ := h.mkOk t ht
    unfold rolledF
    split
    · exact h
    · rename_i hm
      cases hs : s.soon t with
      | none =>
        show Inv (s.setM t q)
        rw [setM_tier]
        exact h.tier t ht (i1.mono (by omega)) i2 ⟨by omega, hq2⟩
      | some nx =>
        obtain ⟨n1, n2, n3⟩ := soon_mem h hs
        obtain ⟨w0, w1, w2⟩ := wst_le (t := t) n2
        show Inv (if q ≤ nx then (s.setM t q, md, (0 : Int)) else _).1
        split
        · rw [setM_tier]
          exact h.tier t ht (i1.mono (by omega)) i2 ⟨by omega, hq2⟩
        · have hn := wst_next hq (show nx < q by omega)
          split
          · rw [setM_tier]
            refine h.tier t ht (i1.mono ?_) i2 ?_
            · split <;> omega
            · split <;> omega
          · refine inv_rolled ht hq hq2 f _ ?_
            rw [tier_push]
            have hwp := wid_pos t
            refine h.tier t ht (i1.push (by omega) ?_ ?_ ?_) (by rw [List.length_append]; simp; omega) ⟨by omega, by omega⟩
            · rcases win_tk s t nx n2 with e | e <;> omega
            · rcases win_tk s t nx n2 with e | e <;> omega
            · rcases win_tk s t nx n2 with e | e
              · rw [e]; exact wst_mod _ _
              · rw [e]; simp
theorem inv_roll {s : St} (h : Inv s) (now : Int) : Inv (s.roll now).2.2 := by
  unfold St.roll
  split
  · exact h
  · rename_i hn
    have w1 := wst_le (t := 1) (x := now) (by omega)
    have h1 := inv_rolled (t := 1) (.inl rfl) (wst_mod 1 now) (by omega) (wst 1 now - s.mk_ 1).toNat (s := s) 0 h
    have b1 := h1.b1
    have w2 := wst_le (t := 2) (x := (rolledS 1 (wst 1 now) s).1.m1) b1.1
    exact inv_rolled (t := 2) (.inr rfl) (wst_mod 2 _) (Int.le_trans w2.2.1 b1.2) _ 0 h1
theorem inv_play (g : Pt → Pt) (s : St) (a : Act16) (h : Inv s) : Inv (playS g s a) := by
  unfold playS
  split
  · exact inv_put h _
  · split
    · exact inv_roll h _
    · split
      · exact inv_purge h _ _
      · exact h
theorem inv_playL (g : Pt → Pt) (L : List Act16) : Inv (playL g L) := by
  unfold playL
  suffices h : ∀ (L : List Act16) (s : St), Inv s → Inv (L.foldl (playS g) s) from h L _ inv_new
  intro L
  induction L with
  | nil => intro s h; exact h
  | cons a r ih => intro s h; exact ih _ (inv_play g s a h)
theorem wf_playL (g : Pt → Pt) (hg : ∀ p, in64 p.val → in64 (g p).val) (L : List Act16) (hL : ∀ a ∈ L, ∀ p ∈ a.l, in64 p.val) : Wf (playL g L) := by
  unfold playL
  suffices h : ∀ (L : List Act16) (s : St), (∀ a ∈ L, ∀ p ∈ a.l, in64 p.val) → Wf s → Wf (L.foldl (playS g) s) from h L _ hL ⟨by simp [St.new], by simp [St.new], by simp [St.new]⟩
  intro L
  induction L with
  | nil => intro s _ h; exact h
  | cons a r ih =>
    intro s hL h
    refine ih _ (fun b hb => hL b (List.mem_cons_of_mem _ hb)) ?_
    unfold playS
    split
    · refine h.put (fun p hp => ?_)
      obtain ⟨q, hq, rfl⟩ := List.mem_map.1 hp
      exact hg q (hL a List.mem_cons_self q hq)
    · split
      · exact h.roll _
      · split
        · exact h.purge _ _
        · exact h
section
variable (lo hi : Int)
def bl (p : Pt) : Pt := if lo ≤ p.tk ∧ p.tk < hi then ⟨p.tk, 0⟩ else p
def bm (t : Nat) (a : Ag) : Ag := if covF t lo ≤ a.tk ∧ a.tk < covT t hi then ⟨a.tk, a.cnt, 0, 0, 0⟩ else a
structure Rel (s s' : St) : Prop where
  raw : s.raw.map (bl lo hi) = s'.raw.map (bl lo hi)
  mid : s.mid.map (bm lo hi 1) = s'.mid.map (bm lo hi 1)
  long : s.long.map (bm lo hi 2) = s'.long.map (bm lo hi 2)
  m1 : s.m1 = s'.m1
  m2 : s.m2 = s'.m2
  i1 : Inv s
  i2 : Inv s'
end
variable {lo hi : Int}
theorem bl_tk (p : Pt) : (bl lo hi p).tk = p.tk := by unfold bl; split <;> rfl
theorem bm_tk (t : Nat) (a : Ag) : (bm lo hi t a).tk = a.tk := by unfold bm; split <;> rfl
theorem bm_cnt (t : Nat) (a : Ag) : (bm lo hi t a).cnt = a.cnt := by unfold bm; split <;> rfl
/-- What looks at keys alone. -/
theorem map_filter {α : Type} {b : α → α} {f : α → Bool} (hf : ∀ x, f (b x) = f x) (l : List α) : (l.filter f).map b = (l.map b).filter f := by
  induction l with
  | nil => rfl
  | cons x r ih =>
    simp only [List.filter_cons, List.map_cons, hf]
    split <;> simp [ih]
theorem filter_rel {α : Type} {b : α → α} {f : α → Bool} (hf : ∀ x, f (b x) = f x) {l l' : List α} (h : l.map b = l'.map b) : (l.filter f).map b = (l'.filter f).map b := by rw [map_filter hf, map_filter hf, h]
theorem any_rel {α : Type} {b : α → α} {f : α → Bool} (hf : ∀ x, f (b x) = f x) {l l' : List α} (h : l.map b = l'.map b) : l.any f = l'.any f := by
  have e : ∀ l : List α, l.any f = (l.map b).any f := fun l => by rw [List.any_map]; congr 1; funext x; exact (hf x).symm
  rw [e l, e l', h]
theorem len_rel {α : Type} {b : α → α} {l l' : List α} (h : l.map b = l'.map b) : l.length = l'.length := by
  have := congrArg List.length h
  simpa using this
theorem find_rel {α : Type} {b : α → α} {f : α → Bool} {k : α → Int} (hf : ∀ x, f (b x) = f x) (hk : ∀ x, k (b x) = k x) {l l' : List α} (h : l.map b = l'.map b) : (l.find? f).map k = (l'.find? f).map k := by
  have e : ∀ l : List α, (l.find? f).map k = ((l.map b).find? f).map k := fun l => by
    induction l with
    | nil => rfl
    | cons x r ih =>
      simp only [List.map_cons, List.find?_cons, hf]
      split
      · simp [hk]
      · exact ih
  rw [e l, e l', h]
theorem filterMap_rel {α : Type} {b : α → α} {F F' : α → Option α} : ∀ {l l' : List α}, l.map b = l'.map b → (∀ x ∈ l, ∀ x', b x = b x' → (F x).map b = (F' x').map b) → (l.filterMap F).map b = (l'.filterMap F').map b
  | [], [], _, _ => rfl
  | [], _ :: _, h, _ => by simp at h
  | _ :: _, [], h, _ => by simp at h
  | x :: r, x' :: r', h, hF => by
    simp only [List.map_cons, List.cons.injEq] at h
    have h1 := hF x List.mem_cons_self x' h.1
    have h2 := filterMap_rel h.2 (fun y hy y' e => hF y (List.mem_cons_of_mem _ hy) y' e)
    simp only [List.filterMap_cons]
    cases e1 : F x <;> cases e2 : F' x' <;> rw [e1, e2] at h1 <;> simp_all
theorem filterMap_same {α : Type} {b : α → α} {F F' : α → Option α} : ∀ {l l' : List α}, l.map b = l'.map b → (∀ x ∈ l, ∀ x', b x = b x' → F x = F' x') → l.filterMap F = l'.filterMap F'
  | [], [], _, _ => rfl
  | [], _ :: _, h, _ => by simp at h
  | _ :: _, [], h, _ => by simp at h
  | x :: r, x' :: r', h, hF => by
    simp only [List.map_cons, List.cons.injEq] at h
    have h1 := hF x List.mem_cons_self x' h.1
    have h2 := filterMap_same h.2 (fun y hy y' e => hF y (List.mem_cons_of_mem _ hy) y' e)
    simp only [List.filterMap_cons, h1, h2]
theorem eq_of_fix {α : Type} {b : α → α} : ∀ {l l' : List α}, l.map b = l'.map b → (∀ x ∈ l, b x = x) → (∀ x ∈ l', b x = x) → l = l' := fun {l l'} h h1 h2 => by
  have e1 : l.map b = l := by
    conv => rhs; rw [← List.map_id l]
    exact List.map_congr_left h1
  have e2 : l'.map b = l' := by
    conv => rhs; rw [← List.map_id l']
    exact List.map_congr_left h2
  rw [← e1, ← e2, h]
theorem putP_map (l : List Pt) (p : Pt) : (putP l p).map (bl lo hi) = putP (l.map (bl lo hi)) (bl lo hi p) := by
  unfold putP below above
  rw [List.map_append, List.map_cons, map_filter (fun x => by rw [bl_tk]), map_filter (fun x => by rw [bl_tk]), bl_tk]
theorem putAll_map (l m : List Pt) : (putAll l m).map (bl lo hi) = putAll (l.map (bl lo hi)) (m.map (bl lo hi)) := by
  unfold putAll
  induction m generalizing l with
  | nil => rfl
  | cons p r ih => rw [List.foldl_cons, List.map_cons, List.foldl_cons, ih, putP_map]
theorem putAll_rel {l l' m m' : List Pt} (h : l.map (bl lo hi) = l'.map (bl lo hi)) (hm : m.map (bl lo hi) = m'.map (bl lo hi)) : (putAll l m).map (bl lo hi) = (putAll l' m').map (bl lo hi) := by rw [putAll_map, putAll_map, h, hm]
theorem sput_rel {l l' m m' : List Pt} (h : l.map (bl lo hi) = l'.map (bl lo hi)) (hm : m.map (bl lo hi) = m'.map (bl lo hi)) : (sput l m).2.2.map (bl lo hi) = (sput l' m').2.2.map (bl lo hi) := by
  have hb : badT m = badT m' := any_rel (f := fun (p : Pt) => decide (p.tk < 0 ∨ 1099511627776 < p.tk)) (fun x => by rw [bl_tk]) hm
  have hp := putAll_rel h hm
  have hl := len_rel hp
  unfold sput
  rw [hb, hl]
  split
  · exact h
  · split
    · exact h
    · exact hp
theorem Rel.put {s s' : St} (h : Rel lo hi s s') {l l' : List Pt} (hl : l.map (bl lo hi) = l'.map (bl lo hi)) : Rel lo hi (s.put l).2.2 (s'.put l').2.2 := by
  have e : l.any (lateP s.m1) = l'.any (lateP s'.m1) := by
    rw [h.m1]
    exact any_rel (fun x => by unfold lateP; rw [bl_tk]) hl
  have j1 := inv_put h.i1 l
  have j2 := inv_put h.i2 l'
  unfold St.put at j1 j2 ⊢
  rw [e] at j1 ⊢
  split
  · exact h
  · rename_i hc
    rw [if_neg hc] at j1 j2
    exact ⟨sput_rel h.raw hl, h.mid, h.long, h.m1, h.m2, j1, j2⟩
theorem agAdd_cnt (a : Ag) (v : Int) : (agAdd a v).cnt = if a.cnt < 1 then 1 else nadd a.cnt 1 := by
  unfold agAdd
  split <;> rfl
theorem ofP_cnt {x x' : Int} : ∀ {l l' : List Pt}, l.length = l'.length → (ofP x l).cnt = (ofP x' l').cnt := fun {l l'} h => by
  unfold ofP
  suffices H : ∀ (l l' : List Pt) (a a' : Ag), l.length = l'.length → a.cnt = a'.cnt → (l.foldl (fun a p => agAdd a p.val) a).cnt = (l'.foldl (fun a p => agAdd a p.val) a').cnt from H l l' _ _ h rfl
  intro l
  induction l with
  | nil => intro l' a a' h hc; cases l' with
    | nil => exact hc
    | cons _ _ => simp at h
  | cons p r ih => intro l' a a' h hc; cases l' with
    | nil => simp at h
    | cons p' r' =>
      refine ih r' _ _ (by simpa using h) ?_
      show (agAdd a p.val).cnt = (agAdd a' p'.val).cnt
      rw [agAdd_cnt, agAdd_cnt, hc]
theorem jall_cnt : ∀ {l l' : List Ag}, l.map Ag.cnt = l'.map Ag.cnt → (jall l).2 = (jall l').2 ∧ (jall l).1.cnt = (jall l').1.cnt := fun {l l'} h => by
  unfold jall
  suffices H : ∀ (l l' : List Ag) (s s' : Ag × Bool), l.map Ag.cnt = l'.map Ag.cnt → s.2 = s'.2 → s.1.cnt = s'.1.cnt → (l.foldl jst s).2 = (l'.foldl jst s').2 ∧ (l.foldl jst s).1.cnt = (l'.foldl jst s').1.cnt from H l l' _ _ h rfl rfl
  intro l
  induction l with
  | nil => intro l' s s' h h1 h2; cases l' with
    | nil => exact ⟨h1, h2⟩
    | cons _ _ => simp at h
  | cons p r ih => intro l' s s' h h1 h2; cases l' with
    | nil => simp at h
    | cons p' r' =>
      simp only [List.map_cons, List.cons.injEq] at h
      refine ih r' _ _ h.2 ?_ ?_
      · unfold jst
        rw [h.1]
        split
        · exact h1
        · rw [h1]; split <;> rfl
      · unfold jst
        rw [h.1]
        split
        · exact h2
        · rw [h1]
          split
          · show nadd _ _ = nadd _ _; rw [h2, h.1]
          · exact h.1
/-- Windows that aren't of the cover have none of the range. -/
theorem out_mid {x : Int} (h0 : 0 ≤ lo) (hlh : lo < hi) {t : Nat} (hx : x % wid t = 0) (hn : ¬ (covF t lo ≤ x ∧ x < covT t hi)) {y : Int} (h1 : x ≤ y) (h2 : y < x + wid t) : ¬ (lo ≤ y ∧ y < hi) := fun h => by
  have hw := wid_pos t
  have a1 := wst_le (t := t) h0
  have a2 := wst_le (t := t) (x := hi - 1) (by omega)
  have m1 := wst_mod t lo
  have m2 := wst_mod t (hi - 1)
  refine hn ⟨?_, ?_⟩
  · unfold covF
    rcases Int.lt_or_le x (wst t lo) with h3 | h3
    · have := wst_next m1 h3
      rw [wst_al hx] at this
      omega
    · exact h3
  · unfold covT
    rcases Int.lt_or_le x (wst t (hi - 1) + wid t) with h3 | h3
    · exact h3
    · omega
theorem cov_sub (h0 : 0 ≤ lo) (hlh : lo < hi) {y : Int} (h : covF 1 lo ≤ y ∧ y < covT 1 hi) : covF 2 lo ≤ y ∧ y < covT 2 hi := by
  have e1 : wid 1 = 300 := rfl
  have e2 : wid 2 = 3600 := rfl
  have w1 : ∀ x, wst 1 x = x - x % 300 := fun _ => rfl
  have w2 : ∀ x, wst 2 x = x - x % 3600 := fun _ => rfl
  simp only [covF, covT, w1, w2, e1, e2] at h ⊢
  omega
end Go.Proofs.Ytmnnahkaenikkaa
