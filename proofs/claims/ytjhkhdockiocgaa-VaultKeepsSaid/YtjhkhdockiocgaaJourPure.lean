/- What a journal's sectors are, and what is read of them: plain words. -/
import Derived.Test.YtjhkhdockiocgaaJour3
namespace Go.Proofs.Ytjhkhdockiocgaa
open Go.RowKit Go.Cat

theorem costN_pos (n : Nat) : 1 ≤ costN n := by unfold costN; omega
/-- The sectors of records, the first one at place p. -/
def secsOf (t : Nat) : Nat → List (List UInt8) → List (List UInt8)
  | _, [] => []
  | p, r :: rs => recSecs t p r ++ secsOf t (p + costN r.length) rs
def total : List (List UInt8) → Nat
  | [] => 0
  | r :: rs => costN r.length + total rs
theorem secsOf_length (t : Nat) : ∀ (rs : List (List UInt8)) (p : Nat), (secsOf t p rs).length = total rs
  | [], _ => rfl
  | r :: rs, p => by simp [secsOf, total, recSecs_length, secsOf_length t rs]
theorem total_append : ∀ a b : List (List UInt8), total (a ++ b) = total a + total b
  | [], _ => by simp [total]
  | r :: a, b => by simp only [List.cons_append, total, total_append a b]; omega
theorem secsOf_append (t : Nat) : ∀ (a b : List (List UInt8)) (p : Nat), secsOf t p (a ++ b) = secsOf t p a ++ secsOf t (p + total a) b
  | [], _, _ => rfl
  | r :: a, b, p => by
    simp only [List.cons_append, secsOf, total, secsOf_append t a b, List.append_assoc]
    rw [Nat.add_assoc]
theorem secsOf_snoc (t p : Nat) (a : List (List UInt8)) (r : List UInt8) : secsOf t p (a ++ [r]) = secsOf t p a ++ recSecs t (p + total a) r := by
  rw [secsOf_append]; simp [secsOf]
theorem total_snoc (a : List (List UInt8)) (r : List UInt8) : total (a ++ [r]) = total a + costN r.length := by rw [total_append]; simp [total]

theorem packOf_sound {t p : Nat} {L : Bool} {d : List UInt8} (hd : d.length ≤ 47) (ht : t < 4294967296) (h0 : t ≠ 0) : sound (packOf t p L d) := ⟨pack_some ht h0, pack_alike hd, pack_clean hd ht h0⟩
theorem packOf_place {t p : Nat} {L : Bool} {d : List UInt8} (hp : p < 4294967296) : placeB (packOf t p L d) = p := by unfold placeB; rw [pack_p, ofBe_be _ _ (by omega)]
theorem packOf_turn {t p : Nat} {L : Bool} {d : List UInt8} (ht : t < 4294967296) : ofBe ((packOf t p L d).take 4) = t := by rw [pack_t, ofBe_be _ _ (by omega)]
theorem packOf_last {t p : Nat} {L : Bool} {d : List UInt8} (hd : d.length ≤ 47) : lastB (packOf t p L d) = L := by
  unfold lastB
  rw [pack_num hd]
  cases L
  · exact decide_eq_false (by simp; omega)
  · exact decide_eq_true (by simp)
theorem packOf_body {t p : Nat} {L : Bool} {d : List UInt8} (hd : d.length ≤ 47) : bodyB (packOf t p L d) = d := by
  unfold bodyB
  rw [pack_mod hd, pack_d hd, List.take_left' rfl]
theorem part47 (d : List UInt8) (i : Nat) : ((d.drop (47 * i)).take 47).length ≤ 47 := by simp; omega
theorem recSec_good {t p : Nat} {d : List UInt8} {i : Nat} (ht : t < 4294967296) (h0 : t ≠ 0) (hp : p + i < 4294967296) : goodAt t (p + i) (recSec t p d i) := ⟨packOf_sound (part47 d i) ht h0, packOf_turn ht, packOf_place hp⟩
theorem recSec_last {t p : Nat} {d : List UInt8} {i : Nat} : lastB (recSec t p d i) = decide (i + 1 = costN d.length) := packOf_last (part47 d i)
theorem recSec_body {t p : Nat} {d : List UInt8} {i : Nat} : bodyB (recSec t p d i) = (d.drop (47 * i)).take 47 := packOf_body (part47 d i)
theorem take_47 (d : List UInt8) (i : Nat) : d.take (47 * i) ++ (d.drop (47 * i)).take 47 = d.take (47 * (i + 1)) := by rw [show 47 * (i + 1) = 47 * i + 47 by omega, List.take_add]
/-- A part of a record's sectors is gone through. -/
theorem run_part {t : Nat} {xs out : List (List UInt8)} (h : RunTo t xs 0 [] out) (d : List UInt8) (ht : t < 4294967296) (h0 : t ≠ 0) (hb : xs.length + costN d.length < 4294967296) :
    ∀ k, k < costN d.length → RunTo t (xs ++ (recSecs t xs.length d).take k) k (d.take (47 * k)) out
  | 0, _ => by simpa using h
  | k + 1, hk => by
    have ih := run_part h d ht h0 hb k (by omega)
    rw [recSecs_take _ _ _ _ (by omega), ← List.append_assoc, ← take_47, ← recSec_body (t := t) (p := xs.length)]
    have hl : (xs ++ (recSecs t xs.length d).take k).length = xs.length + k := by rw [List.length_append, List.length_take, recSecs_length, Nat.min_eq_left (by omega)]
    refine .more ih (by rw [hl]; exact recSec_good ht h0 (by omega)) ?_
    rw [recSec_last]; exact decide_eq_false (by omega)
theorem run_rec {t : Nat} {xs out : List (List UInt8)} (h : RunTo t xs 0 [] out) (d : List UInt8) (ht : t < 4294967296) (h0 : t ≠ 0) (hb : xs.length + costN d.length < 4294967296) :
    RunTo t (xs ++ recSecs t xs.length d) 0 [] (out ++ [d]) := by
  have hc := costN_pos d.length
  obtain ⟨k, hk⟩ : ∃ k, costN d.length = k + 1 := ⟨costN d.length - 1, by omega⟩
  have ih := run_part h d ht h0 hb k (by omega)
  have e : recSecs t xs.length d = (recSecs t xs.length d).take k ++ [recSec t xs.length d k] := by
    rw [← recSecs_take _ _ _ _ (by omega), List.take_of_length_le (by rw [recSecs_length]; omega)]
  have hl : (xs ++ (recSecs t xs.length d).take k).length = xs.length + k := by rw [List.length_append, List.length_take, recSecs_length, Nat.min_eq_left (by omega)]
  have h2 := RunTo.last ih (x := recSec t xs.length d k) (by rw [hl]; exact recSec_good ht h0 (by omega)) (by rw [recSec_last]; exact decide_eq_true (by omega))
  rw [recSec_body, take_47] at h2
  rw [List.take_of_length_le (show d.length ≤ 47 * (k + 1) by unfold costN at hk; omega)] at h2
  rw [e, ← List.append_assoc]
  exact h2
theorem run_all {t : Nat} (ht : t < 4294967296) (h0 : t ≠ 0) : ∀ (rs pre : List (List UInt8)), total pre + total rs < 4294967296 → RunTo t (secsOf t 0 pre) 0 [] pre → RunTo t (secsOf t 0 (pre ++ rs)) 0 [] (pre ++ rs)
  | [], pre, _, h => by simpa using h
  | r :: rs, pre, hb, h => by
    simp only [total] at hb
    have h1 := run_rec h r ht h0 (by rw [secsOf_length]; omega)
    rw [secsOf_length, show total pre = 0 + total pre by omega, ← secsOf_snoc] at h1
    have := run_all ht h0 rs (pre ++ [r]) (by rw [total_snoc]; omega) h1
    rwa [List.append_assoc, List.singleton_append] at this
/-- As many sectors as there are of these records: what is told is the records that are wholly there. -/
theorem run_upto {t : Nat} (ht : t < 4294967296) (h0 : t ≠ 0) (done : List (List UInt8)) : ∀ (behind : List (List UInt8)) (pre : List (List UInt8)) (k : Nat), total done + total pre + total behind < 4294967296 → total (done ++ pre) ≤ k → k ≤ total (done ++ pre ++ behind) →
    ∃ c acc p, p <+: behind ∧ RunTo t ((secsOf t 0 (done ++ pre ++ behind)).take k) c acc (done ++ pre ++ p)
  | [], pre, k, hb, h1, h2 => by
    simp only [List.append_nil] at h2 ⊢
    obtain rfl : k = total (done ++ pre) := by omega
    refine ⟨0, [], [], List.prefix_refl _, ?_⟩
    rw [List.take_of_length_le (by rw [secsOf_length]; exact Nat.le_refl _), List.append_nil]
    have := run_all ht h0 (done ++ pre) [] (by rw [total_append]; simp only [total] at *; omega) .nil
    simpa using this
  | r :: rs, pre, k, hb, h1, h2 => by
    simp only [total] at hb
    have e1 : done ++ pre ++ r :: rs = done ++ (pre ++ [r]) ++ rs := by simp
    have e2 : total (done ++ (pre ++ [r])) = total (done ++ pre) + costN r.length := by rw [← List.append_assoc, total_snoc]
    by_cases hk : total (done ++ pre) + costN r.length ≤ k
    · obtain ⟨c, acc, p, hp, hr⟩ := run_upto ht h0 done rs (pre ++ [r]) k (by rw [total_snoc]; omega) (by rw [e2]; exact hk) (by rw [← e1]; exact h2)
      refine ⟨c, acc, r :: p, List.prefix_cons_inj r |>.2 hp, ?_⟩
      rw [e1]
      have : done ++ pre ++ r :: p = done ++ (pre ++ [r]) ++ p := by simp
      rw [this]; exact hr
    · have hrun := run_all ht h0 (done ++ pre) [] (by rw [total_append]; simp only [total] at *; omega) .nil
      simp only [List.nil_append] at hrun
      have hp := run_part hrun r ht h0 (by rw [secsOf_length, total_append]; omega) (k - total (done ++ pre)) (by omega)
      refine ⟨k - total (done ++ pre), r.take (47 * (k - total (done ++ pre))), [], List.nil_prefix, ?_⟩
      rw [List.append_nil]
      have e3 : (secsOf t 0 (done ++ pre ++ r :: rs)).take k = secsOf t 0 (done ++ pre) ++ (recSecs t (secsOf t 0 (done ++ pre)).length r).take (k - total (done ++ pre)) := by
        rw [secsOf_append t (done ++ pre) (r :: rs), List.take_append, secsOf_length, List.take_of_length_le (by rw [secsOf_length]; omega)]
        simp only [secsOf, Nat.zero_add]
        rw [List.take_append_of_le_length (by rw [recSecs_length]; omega)]
      rw [e3]
      exact hp
theorem RunTo.good {t : Nat} {xs : List (List UInt8)} {c : Nat} {acc : List UInt8} {out : List (List UInt8)} (h : RunTo t xs c acc out) : ∀ (i : Nat) x, xs[i]? = some x → goodAt t i x := by
  induction h with
  | nil => intro i x hx; simp at hx
  | more _ hg _ ih =>
    intro i x hx
    rename_i xs _ _ _ y _ _
    rcases Nat.lt_or_ge i xs.length with hi | hi
    · rw [List.getElem?_append_left hi] at hx; exact ih i x hx
    · have hil := (List.getElem?_eq_some_iff.1 hx).1
      simp at hil
      obtain rfl : i = xs.length := by omega
      simp at hx
      subst hx; exact hg
  | last _ hg _ ih =>
    intro i x hx
    rename_i xs _ _ _ y _ _
    rcases Nat.lt_or_ge i xs.length with hi | hi
    · rw [List.getElem?_append_left hi] at hx; exact ih i x hx
    · have hil := (List.getElem?_eq_some_iff.1 hx).1
      simp at hil
      obtain rfl : i = xs.length := by omega
      simp at hx
      subst hx; exact hg
theorem RunTo.det {t : Nat} {xs : List (List UInt8)} {c : Nat} {acc : List UInt8} {out : List (List UInt8)} (h : RunTo t xs c acc out) : ∀ {xs' c' acc' out'}, xs' = xs → RunTo t xs' c' acc' out' → c = c' ∧ acc = acc' ∧ out = out' := by
  induction h with
  | nil =>
    intro xs' c' acc' out' e h'
    cases h' with
    | nil => exact ⟨rfl, rfl, rfl⟩
    | more _ _ _ => simp at e
    | last _ _ _ => simp at e
  | more _ hg hl ih =>
    intro xs' c' acc' out' e h'
    cases h' with
    | nil => simp at e
    | more h2 hg2 hl2 =>
      obtain ⟨e1, e2⟩ := List.append_inj' e rfl
      obtain ⟨rfl, rfl, rfl⟩ := ih e1 h2
      simp at e2
      subst e2
      exact ⟨rfl, rfl, rfl⟩
    | last h2 hg2 hl2 =>
      obtain ⟨e1, e2⟩ := List.append_inj' e rfl
      simp at e2
      subst e2
      rw [hl] at hl2; cases hl2
  | last _ hg hl ih =>
    intro xs' c' acc' out' e h'
    cases h' with
    | nil => simp at e
    | more h2 hg2 hl2 =>
      obtain ⟨e1, e2⟩ := List.append_inj' e rfl
      simp at e2
      subst e2
      rw [hl] at hl2; cases hl2
    | last h2 hg2 hl2 =>
      obtain ⟨e1, e2⟩ := List.append_inj' e rfl
      obtain ⟨rfl, rfl, rfl⟩ := ih e1 h2
      simp at e2
      subst e2
      exact ⟨rfl, rfl, rfl⟩
theorem recs_unique {t : Nat} {X out out' : List (List UInt8)} {k c : Nat} {acc : List UInt8} (h : Recs t X out) (hr : RunTo t (X.take k) c acc out') (hk : k = X.length ∨ ∃ x, X[k]? = some x ∧ ¬ goodAt t k x) : out = out' := by
  rcases h with ⟨c1, a1, h⟩ | ⟨k1, x1, c1, a1, hx1, h, hb1⟩
  · rcases hk with rfl | ⟨x, hx, hb⟩
    · rw [List.take_length] at hr
      exact (h.det rfl hr).2.2
    · exact absurd (h.good k x hx) hb
  · rcases Nat.lt_trichotomy k1 k with hlt | heq | hgt
    · exact absurd (hr.good k1 x1 (by rw [List.getElem?_take, if_pos hlt]; exact hx1)) hb1
    · subst heq; exact (h.det rfl hr).2.2
    · rcases hk with rfl | ⟨x, hx, hb⟩
      · have := (List.getElem?_eq_some_iff.1 hx1).1; omega
      · exact absurd (h.good k x (by rw [List.getElem?_take, if_pos hgt]; exact hx)) hb
/-- What is read: the records that were committed, and a beginning of the others. -/
theorem read_begins {t : Nat} (ht : t < 4294967296) (h0 : t ≠ 0) {X out done behind : List (List UInt8)} (hb : total done + total behind < 4294967296) (hX : total done + total behind ≤ X.length)
    (hdone : ∀ i, i < total done → X[i]? = (secsOf t 0 (done ++ behind))[i]?) (hrest : ∀ i, total done ≤ i → i < X.length → (i < total done + total behind ∧ X[i]? = (secsOf t 0 (done ++ behind))[i]?) ∨ ∃ x, X[i]? = some x ∧ ¬ goodAt t i x)
    (h : Recs t X out) : ∃ p, p <+: behind ∧ out = done ++ p := by
  have hex : ∃ k, total done ≤ k ∧ k ≤ total done + total behind ∧ (∀ i, i < k → X[i]? = (secsOf t 0 (done ++ behind))[i]?) ∧ (k = X.length ∨ ∃ x, X[k]? = some x ∧ ¬ goodAt t k x) := by
    have step : ∀ n k, total done + total behind - k = n → total done ≤ k → k ≤ total done + total behind → (∀ i, i < k → X[i]? = (secsOf t 0 (done ++ behind))[i]?) →
        ∃ k, total done ≤ k ∧ k ≤ total done + total behind ∧ (∀ i, i < k → X[i]? = (secsOf t 0 (done ++ behind))[i]?) ∧ (k = X.length ∨ ∃ x, X[k]? = some x ∧ ¬ goodAt t k x) := by
      intro n
      induction n with
      | zero =>
        intro k hn h1 h2 h3
        refine ⟨k, h1, h2, h3, ?_⟩
        by_cases hk : k < X.length
        · rcases hrest k h1 hk with ⟨h4, _⟩ | h4
          · omega
          · exact .inr h4
        · exact .inl (by omega)
      | succ n ih =>
        intro k hn h1 h2 h3
        rcases hrest k h1 (by omega) with ⟨h4, h5⟩ | h4
        · refine ih (k + 1) (by omega) (by omega) (by omega) (fun i hi => ?_)
          rcases Nat.lt_or_ge i k with h6 | h6
          · exact h3 i h6
          · obtain rfl : i = k := by omega
            exact h5
        · exact ⟨k, h1, h2, h3, .inr h4⟩
    exact step _ (total done) rfl (Nat.le_refl _) (by omega) hdone
  obtain ⟨k, h1, h2, h3, h4⟩ := hex
  obtain ⟨c, acc, p, hp, hr⟩ := run_upto ht h0 done behind [] k (by simp only [total]; omega) (by simpa using h1) (by simp only [List.append_nil, total_append]; exact h2)
  simp only [List.append_nil] at hr
  have e : (secsOf t 0 (done ++ behind)).take k = X.take k := by
    apply List.ext_getElem?
    intro i
    rw [List.getElem?_take, List.getElem?_take]
    split
    · rename_i hi; exact (h3 i hi).symm
    · rfl
  rw [e] at hr
  exact ⟨p, hp, recs_unique h hr h4⟩
theorem recs_none {t : Nat} {X out : List (List UInt8)} (h : Recs t X out) (hb : ∀ x, X[0]? = some x → ¬ goodAt t 0 x) : out = [] := by
  by_cases hX : X = []
  · subst hX
    exact recs_unique (k := 0) h .nil (.inl rfl)
  · obtain ⟨x, r, rfl⟩ := List.exists_cons_of_ne_nil hX
    exact recs_unique (k := 0) h .nil (.inr ⟨x, rfl, hb x rfl⟩)

/-! ### Sectors on the device -/
theorem flushTo_wat : ∀ (xs l : List (List UInt8)) (b : Nat), b + xs.length ≤ l.length → ((flushTo l (wat b xs)).length = l.length) ∧ ∀ i, (flushTo l (wat b xs))[i]? = if b ≤ i ∧ i < b + xs.length then xs[i - b]? else l[i]?
  | [], l, b, _ => by refine ⟨rfl, fun i => ?_⟩; rw [if_neg (by simp only [List.length_nil]; omega)]; rfl
  | x :: xs, l, b, h => by
    simp only [List.length_cons] at h
    obtain ⟨h1, h2⟩ := flushTo_wat xs (l.set b x) (b + 1) (by rw [List.length_set]; omega)
    have e : flushTo l (wat b (x :: xs)) = flushTo (l.set b x) (wat (b + 1) xs) := rfl
    rw [e]
    refine ⟨by rw [h1, List.length_set], fun i => ?_⟩
    simp only [List.length_cons]
    rw [h2 i, List.getElem?_set]
    by_cases e : b = i
    · subst e
      rw [if_neg (by omega), if_pos rfl, if_pos (by omega), if_pos (by omega)]
      simp
    · by_cases h3 : b + 1 ≤ i ∧ i < b + 1 + xs.length
      · rw [if_pos h3, if_pos (by omega), show i - b = (i - (b + 1)) + 1 by omega]
        simp
      · rw [if_neg h3, if_neg e, if_neg (by omega)]
theorem readOf_nil (l : List (List UInt8)) (lo n : Nat) : readOf l [] lo n = (l.drop lo).take n := rfl
theorem readOf_at (l : List (List UInt8)) (lo n i : Nat) : (readOf l [] lo n)[i]? = if i < n then l[lo + i]? else none := by
  rw [readOf_nil, List.getElem?_take, List.getElem?_drop]
/-- A sector of which a part was written over another one. -/
def Mix (f o x : List UInt8) : Prop := ∃ k, k ≤ 64 ∧ x = f.take k ++ o.drop k
theorem crashTo_wat (keep : Nat) (torn bytes : Int) (xs l : List (List UInt8)) (b : Nat) (hb : b + xs.length ≤ l.length) (hx : ∀ x ∈ xs, x.length = 64) (hl : ∀ x ∈ l, x.length = 64) :
    ∀ k, k ≤ xs.length → ((crashTo keep torn bytes l (wat b xs) k).length = l.length) ∧ (∀ i, ¬ (b ≤ i ∧ i < b + k) → (crashTo keep torn bytes l (wat b xs) k)[i]? = l[i]?) ∧
      ∀ j f o, j < k → xs[j]? = some f → l[b + j]? = some o → ∃ x, (crashTo keep torn bytes l (wat b xs) k)[b + j]? = some x ∧ Mix f o x
  | 0, _ => ⟨rfl, fun _ _ => rfl, fun j _ _ hj => by omega⟩
  | k + 1, hk => by
    obtain ⟨h1, h2, h3⟩ := crashTo_wat keep torn bytes xs l b hb hx hl k (by omega)
    obtain ⟨f, hf⟩ : ∃ f, xs[k]? = some f := ⟨_, List.getElem?_eq_getElem (by omega)⟩
    obtain ⟨o, ho⟩ : ∃ o, l[b + k]? = some o := ⟨_, List.getElem?_eq_getElem (by omega)⟩
    have hw : (wat b xs)[k]? = some (b + k, f) := by
      have e := wat_append (xs.take k) (xs.drop k) b
      rw [List.take_append_drop] at e
      rw [e, List.getElem?_append_right (by rw [wat_length, List.length_take]; omega), wat_length, List.length_take, Nat.min_eq_left (by omega), Nat.sub_self]
      have : xs.drop k = f :: xs.drop (k + 1) := by
        obtain ⟨h4, h5⟩ := List.getElem?_eq_some_iff.1 hf
        rw [List.drop_eq_getElem_cons h4, h5]
      rw [this]; rfl
    have hcur := h2 (b + k) (by omega)
    rw [ho] at hcur
    have hfl := hx f (List.mem_of_getElem? hf)
    have hol := hl o (List.mem_of_getElem? ho)
    simp only [crashTo, hw, crashStep]
    by_cases hbit : keep.testBit (k % 64) = true
    · rw [if_pos hbit]
      have hin : b + k < (crashTo keep torn bytes l (wat b xs) k).length := by rw [h1]; omega
      have hg : (crashTo keep torn bytes l (wat b xs) k).getD (b + k) [] = o := by rw [List.getD_eq_getElem?_getD, hcur]; rfl
      rw [hg]
      refine ⟨by rw [List.length_set, h1], fun i hi => ?_, fun j f' o' hj hf' ho' => ?_⟩
      · rw [List.getElem?_set_ne (by omega)]; exact h2 i (by omega)
      · by_cases e : j = k
        · subst e
          rw [hf] at hf'; rw [ho] at ho'
          cases hf'; cases ho'
          exact ⟨_, by rw [List.getElem?_set_self hin], _, tornN_le torn bytes j, rfl⟩
        · rw [List.getElem?_set_ne (by omega)]
          exact h3 j f' o' (by omega) hf' ho'
    · rw [if_neg hbit]
      refine ⟨h1, fun i hi => h2 i (by omega), fun j f' o' hj hf' ho' => ?_⟩
      by_cases e : j = k
      · subst e
        rw [ho] at ho'; cases ho'
        exact ⟨o, hcur, 0, by omega, by simp⟩
      · exact h3 j f' o' (by omega) hf' ho'
/-- A sector with a mark of its own, or with nothing. -/
def clear8 (o : List UInt8) (t p : Nat) : Prop := o.length = 64 ∧ o.take 8 = o.drop 56 ∧ o.take 8 ≠ be t 4 ++ be p 4 ∧ known o ∧ ¬ goodAt t p o
theorem mix_cases {t p : Nat} {L : Bool} {d o x : List UInt8} (hd : d.length ≤ 47) (ho : clear8 o t p) (hm : Mix (packOf t p L d) o x) : x = packOf t p L d ∨ x = o ∨ (x.length = 64 ∧ ¬ stampsAlike x ∧ ¬ ∀ b ∈ x, b = 0) := by
  obtain ⟨k, hk, rfl⟩ := hm
  have hfl := pack_len (turn := t) (place := p) (last := L) hd
  have hxl : ((packOf t p L d).take k ++ o.drop k).length = 64 := by simp [hfl, ho.1]; omega
  by_cases ha : stampsAlike ((packOf t p L d).take k ++ o.drop k)
  · have h8 := alike_8 hxl ha
    rcases torn_or (f := packOf t p L d) (o := o) (k := k) hfl (by rw [pack_8, pack_end hd]) ho.2.1 (by rw [pack_8]; exact fun h => ho.2.2.1 h.symm) hk h8 with h | h
    · exact .inl h
    · exact .inr (.inl h)
  · refine .inr (.inr ⟨hxl, ha, fun hz => ha ?_⟩)
    have hrep : (packOf t p L d).take k ++ o.drop k = List.replicate 64 0 := by
      rw [← hxl]; exact List.eq_replicate_of_mem hz
    rw [hrep]
    exact ⟨rfl, rfl⟩
theorem zb_clear8 {t p : Nat} (ht : t < 4294967296) (h0 : t ≠ 0) : clear8 (zb 64) t p := by
  refine ⟨by simp, zb_8, fun h => h0 ?_, ⟨by simp, .inl (fun b hb => (List.mem_replicate.1 hb).2)⟩, fun h => h.1.1 (fun b hb => (List.mem_replicate.1 hb).2)⟩
  have h1 : ofBe (((zb 64).take 8).take 4) = ofBe ((be t 4 ++ be p 4).take 4) := by rw [h]
  rw [List.take_left' (by simp), ofBe_be _ _ (by omega)] at h1
  rw [← h1]; rfl
theorem pack_clear8 {t p t' p' : Nat} {L : Bool} {d : List UInt8} (hd : d.length ≤ 47) (ht : t < 4294967296) (ht' : t' < 4294967296) (h0 : t' ≠ 0) (hp : p < 4294967296) (hp' : p' < 4294967296) (hne : t ≠ t' ∨ p ≠ p') : clear8 (packOf t' p' L d) t p := by
  refine ⟨pack_len hd, by rw [pack_8, pack_end hd], fun h => ?_, ⟨pack_len hd, .inr (.inr (packOf_sound hd ht' h0))⟩, fun h => ?_⟩
  · rw [pack_8] at h
    obtain ⟨h1, h2⟩ := List.append_inj h (by simp)
    have e1 : t' = t := by rw [← ofBe_be t' 4 (by omega), h1, ofBe_be t 4 (by omega)]
    have e2 : p' = p := by rw [← ofBe_be p' 4 (by omega), h2, ofBe_be p 4 (by omega)]
    rcases hne with h | h
    · exact h e1.symm
    · exact h e2.symm
  · have e1 := h.2.1
    have e2 := h.2.2
    rw [packOf_turn ht'] at e1
    rw [packOf_place hp'] at e2
    rcases hne with h | h
    · exact h e1.symm
    · exact h e2.symm
end Go.Proofs.Ytjhkhdockiocgaa
