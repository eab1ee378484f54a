/- What a device bears of one journal: plain words. -/
import Derived.Test.YtjhkhdockiocgaaJourUp
namespace Go.Proofs.Ytjhkhdockiocgaa
open Go.RowKit Go.Cat

/-- Journal of turn t, in n sectors from lo on: 'done' are there, 'behind' wait; elder sectors are Old and of other marks. -/
structure JInv (d : Dev) (lo n t : Nat) (Old : List UInt8 → Prop) (done behind : List (List UInt8)) : Prop where
  len : lo + n ≤ d.l.length
  l64 : ∀ x ∈ d.l, x.length = 64
  there : ∀ i, i < total done → d.l[lo + i]? = (secsOf t 0 done)[i]?
  old : ∀ i, total done ≤ i → i < n → ∃ o, d.l[lo + i]? = some o ∧ clear8 o t i ∧ Old o
  waits : d.waits = wat (lo + total done) (secsOf t (total done) behind)
  fits : total done + total behind ≤ n
  nn : n ≤ 8192
theorem secsOf_at (t : Nat) : ∀ (rs : List (List UInt8)) (p i : Nat) (x : List UInt8), (secsOf t p rs)[i]? = some x → ∃ L d, d.length ≤ 47 ∧ x = packOf t (p + i) L d
  | [], _, _, _, h => by simp [secsOf] at h
  | r :: rs, p, i, x, h => by
    simp only [secsOf] at h
    rcases Nat.lt_or_ge i (costN r.length) with hi | hi
    · rw [List.getElem?_append_left (by rw [recSecs_length]; exact hi), recSecs, List.getElem?_map, List.getElem?_range hi] at h
      simp only [Option.map_some, Option.some.injEq] at h
      exact ⟨_, _, part47 r i, h.symm⟩
    · rw [List.getElem?_append_right (by rw [recSecs_length]; exact hi), recSecs_length] at h
      obtain ⟨L, d, h1, h2⟩ := secsOf_at t rs _ _ x h
      exact ⟨L, d, h1, by rw [h2]; congr 1; omega⟩
theorem secsOf_64 (t : Nat) (rs : List (List UInt8)) (p : Nat) : ∀ x ∈ secsOf t p rs, x.length = 64 := fun x hx => by
  obtain ⟨i, hi⟩ := List.getElem?_of_mem hx
  obtain ⟨L, d, h1, rfl⟩ := secsOf_at t rs p i x hi
  exact pack_len h1
theorem JInv.write {d : Dev} {lo n t : Nat} {Old : List UInt8 → Prop} {done behind : List (List UInt8)} (h : JInv d lo n t Old done behind) (r : List UInt8) (hf : total done + total behind + costN r.length ≤ n) :
    JInv { d with waits := d.waits ++ wat (lo + (total done + total behind)) (recSecs t (total done + total behind) r) } lo n t Old done (behind ++ [r]) :=
  ⟨h.len, h.l64, h.there, h.old, by
    show d.waits ++ _ = _
    rw [h.waits, secsOf_snoc, wat_append, secsOf_length, Nat.add_assoc], by rw [total_snoc]; omega, h.nn⟩
theorem wat_set64 {xs l : List (List UInt8)} {b : Nat} (hb : b + xs.length ≤ l.length) (hx : ∀ x ∈ xs, x.length = 64) (hl : ∀ x ∈ l, x.length = 64) : ∀ x ∈ flushTo l (wat b xs), x.length = 64 := fun x hm => by
  obtain ⟨i, hi⟩ := List.getElem?_of_mem hm
  rw [(flushTo_wat xs l b hb).2 i] at hi
  split at hi
  · exact hx x (List.mem_of_getElem? hi)
  · exact hl x (List.mem_of_getElem? hi)
theorem JInv.flush {d : Dev} {lo n t : Nat} {Old : List UInt8 → Prop} {done behind : List (List UInt8)} (h : JInv d lo n t Old done behind) : JInv { d with l := flushTo d.l d.waits, waits := [] } lo n t Old (done ++ behind) [] := by
  have hlen := h.len
  have hfit := h.fits
  have hsl := secsOf_length t behind (total done)
  have hb : lo + total done + (secsOf t (total done) behind).length ≤ d.l.length := by rw [hsl]; omega
  obtain ⟨f1, f2⟩ := flushTo_wat (secsOf t (total done) behind) d.l (lo + total done) hb
  rw [← h.waits] at f1 f2
  refine ⟨by show _ ≤ (flushTo d.l d.waits).length; rw [f1]; exact h.len, by show ∀ x ∈ flushTo d.l d.waits, _; rw [h.waits]; exact wat_set64 hb (secsOf_64 _ _ _) h.l64, fun i hi => ?_, fun i h1 h2 => ?_, rfl, by rw [total_append]; simp only [total]; omega, h.nn⟩
  · show (flushTo d.l d.waits)[lo + i]? = _
    rw [f2, secsOf_append, Nat.zero_add]
    rw [total_append] at hi
    rcases Nat.lt_or_ge i (total done) with h3 | h3
    · rw [if_neg (by omega), List.getElem?_append_left (by rw [secsOf_length]; exact h3)]
      exact h.there i h3
    · rw [if_pos (by rw [hsl]; omega), List.getElem?_append_right (by rw [secsOf_length]; exact h3), secsOf_length]
      congr 1; omega
  · rw [total_append] at h1
    obtain ⟨o, h3, h4⟩ := h.old i (by omega) h2
    refine ⟨o, ?_, h4⟩
    show (flushTo d.l d.waits)[lo + i]? = _
    rw [f2, if_neg (by rw [hsl]; omega)]
    exact h3
theorem JInv.commit {d : Dev} {lo n t : Nat} {Old : List UInt8 → Prop} {done behind : List (List UInt8)} (h : JInv d lo n t Old done behind) (r : List UInt8) (hf : total done + total behind + costN r.length ≤ n) :
    JInv { d with l := flushTo d.l (d.waits ++ wat (lo + (total done + total behind)) (recSecs t (total done + total behind) r)), waits := [] } lo n t Old (done ++ behind ++ [r]) [] := by
  have := (h.write r hf).flush
  rw [← List.append_assoc] at this
  exact this
/-- What is read of it, as it stands. -/
theorem JInv.readX {d : Dev} {lo n t : Nat} {Old : List UInt8 → Prop} {done : List (List UInt8)} (h : JInv d lo n t Old done []) (ht : t < 4294967296) (h0 : t ≠ 0) :
    KnownAll (readOf d.l [] lo n) ∧ (readOf d.l [] lo n).length = n ∧ (done ≠ [] → turnB ((readOf d.l [] lo n).headD []) = t) := by
  have hlen := h.len
  have hfit := h.fits
  have hnn := h.nn
  have hat : ∀ i, i < n → (∃ L e, e.length ≤ 47 ∧ d.l[lo + i]? = some (packOf t i L e) ∧ i < total done) ∨ (∃ o, d.l[lo + i]? = some o ∧ clear8 o t i ∧ Old o) := fun i hi => by
    rcases Nat.lt_or_ge i (total done) with h1 | h1
    · have h2 := h.there i h1
      obtain ⟨x, hx⟩ : ∃ x, (secsOf t 0 done)[i]? = some x := ⟨_, List.getElem?_eq_getElem (by rw [secsOf_length]; exact h1)⟩
      obtain ⟨L, e, h3, h4⟩ := secsOf_at t done 0 i x hx
      exact .inl ⟨L, e, h3, by rw [h2, hx, h4, Nat.zero_add], h1⟩
    · exact .inr (h.old i h1 hi)
  have hl : (readOf d.l [] lo n).length = n := by rw [readOf_nil, List.length_take, List.length_drop]; omega
  refine ⟨fun x hx => ?_, hl, fun hd => ?_⟩
  · obtain ⟨i, hi⟩ := List.getElem?_of_mem hx
    rw [readOf_at] at hi
    split at hi
    · rename_i hin
      rcases hat i hin with ⟨L, e, h1, h2, _⟩ | ⟨o, h1, h2, _⟩
      · rw [h2] at hi; cases hi
        exact ⟨pack_len h1, .inr (.inr (packOf_sound h1 ht h0))⟩
      · rw [h1] at hi; cases hi
        exact h2.2.2.2.1
    · cases hi
  · have htp : 0 < total done := by
      cases done with
      | nil => exact absurd rfl hd
      | cons r rs => simp only [total]; have := costN_pos r.length; omega
    rcases hat 0 (by omega) with ⟨L, e, h1, h2, _⟩ | ⟨o, h1, h2, _⟩
    · have h3 : (readOf d.l [] lo n)[0]? = some (packOf t 0 L e) := by rw [readOf_at, if_pos (by omega), h2]
      have h4 : (readOf d.l [] lo n).headD [] = packOf t 0 L e := by
        cases hX : readOf d.l [] lo n with
        | nil => rw [hX] at h3; simp at h3
        | cons y ys => rw [hX] at h3; simpa using h3
      rw [h4]
      exact (if_pos (packOf_sound h1 ht h0)).trans (packOf_turn ht)
    · have h3 := h.there 0 htp
      obtain ⟨x, hx⟩ : ∃ x, (secsOf t 0 done)[0]? = some x := ⟨_, List.getElem?_eq_getElem (by rw [secsOf_length]; exact htp)⟩
      obtain ⟨L, e, h4, h5⟩ := secsOf_at t done 0 0 x hx
      rw [h3, hx] at h1
      cases h1
      rw [h5] at h2
      exact absurd ⟨packOf_sound h4 ht h0, packOf_turn ht, packOf_place (by omega)⟩ h2.2.2.2.2
theorem getElem?_some_lt {α : Type} {l : List α} {i : Nat} (h : i < l.length) : ∃ x, l[i]? = some x := ⟨_, List.getElem?_eq_getElem h⟩
theorem headD_at {X : List (List UInt8)} {x : List UInt8} (h : X[0]? = some x) : X.headD [] = x := by
  cases X with
  | nil => simp at h
  | cons y ys => simpa using h
theorem turn_head {t : Nat} {X : List (List UInt8)} {L : Bool} {e : List UInt8} (h : X[0]? = some (packOf t 0 L e)) (he : e.length ≤ 47) (ht : t < 4294967296) (h0 : t ≠ 0) : turnB (X.headD []) = t := by
  rw [headD_at h]
  exact (if_pos (packOf_sound he ht h0)).trans (packOf_turn ht)
/-- Sectors, each the journal's, or an elder one, or torn: what is read. -/
theorem read_mixed {X out done behind : List (List UInt8)} {t n : Nat} {Old : List UInt8 → Prop} (ht : t < 4294967296) (h0 : t ≠ 0) (hn : X.length = n) (hnn : n ≤ 8192) (hfit : total done + total behind ≤ n) (hO : done ≠ [] ∨ ∀ o, Old o → ¬ sound o)
    (hdone : ∀ i, i < total done → X[i]? = (secsOf t 0 (done ++ behind))[i]?)
    (hrest : ∀ i, total done ≤ i → i < n → (i < total done + total behind ∧ X[i]? = (secsOf t 0 (done ++ behind))[i]?) ∨ ∃ x, X[i]? = some x ∧ ((clear8 x t i ∧ Old x) ∨ (x.length = 64 ∧ ¬ stampsAlike x ∧ ¬ ∀ b ∈ x, b = 0)))
    (hpos : 1 ≤ n) :
    KnownAll X ∧ (Recs (turnB (X.headD [])) X out → (∃ p, p <+: behind ∧ out = done ++ p) ∧ (done ≠ [] → turnB (X.headD []) = t)) := by
  have hsec : ∀ i, i < total done + total behind → ∃ L e, e.length ≤ 47 ∧ (secsOf t 0 (done ++ behind))[i]? = some (packOf t i L e) := fun i hi => by
    obtain ⟨x, hx⟩ := getElem?_some_lt (show i < (secsOf t 0 (done ++ behind)).length by rw [secsOf_length, total_append]; exact hi)
    obtain ⟨L, e, h3, h4⟩ := secsOf_at t _ 0 i x hx
    exact ⟨L, e, h3, by rw [hx, h4, Nat.zero_add]⟩
  refine ⟨fun x hx => ?_, fun hrec => ?_⟩
  · obtain ⟨i, hi⟩ := List.getElem?_of_mem hx
    have hil := (List.getElem?_eq_some_iff.1 hi).1
    have hpk : ∀ i, i < total done + total behind → X[i]? = (secsOf t 0 (done ++ behind))[i]? → X[i]? = some x → known x := fun i h1 h2 h3 => by
      obtain ⟨L, e, h4, h5⟩ := hsec i h1
      rw [h2, h5] at h3; cases h3
      exact ⟨pack_len h4, .inr (.inr (packOf_sound h4 ht h0))⟩
    rcases Nat.lt_or_ge i (total done) with h1 | h1
    · exact hpk i (by omega) (hdone i h1) hi
    · rcases hrest i h1 (by omega) with ⟨h2, h3⟩ | ⟨y, h2, h3⟩
      · exact hpk i h2 h3 hi
      · rw [hi] at h2; cases h2
        rcases h3 with h3 | h3
        · exact h3.1.2.2.2.1
        · exact ⟨h3.1, .inr (.inl ⟨h3.2.2, h3.2.1⟩)⟩
  · have hbad : ∀ i, total done ≤ i → i < X.length → (i < total done + total behind ∧ X[i]? = (secsOf t 0 (done ++ behind))[i]?) ∨ ∃ x, X[i]? = some x ∧ ¬ goodAt t i x := fun i h1 h2 => by
      rcases hrest i h1 (by omega) with h3 | ⟨y, h3, h4⟩
      · exact .inl h3
      · refine .inr ⟨y, h3, fun hg => ?_⟩
        rcases h4 with h4 | h4
        · exact h4.1.2.2.2.2 hg
        · exact h4.2.1 hg.1.2.1
    have hturn : X[0]? = (secsOf t 0 (done ++ behind))[0]? → 0 < total done + total behind → turnB (X.headD []) = t := fun h1 h2 => by
      obtain ⟨L, e, h3, h4⟩ := hsec 0 h2
      rw [h4] at h1
      exact turn_head h1 h3 ht h0
    by_cases hd : done = []
    · subst hd
      refine ⟨?_, fun h => absurd rfl h⟩
      rcases hrest 0 (by simp [total]) (by omega) with ⟨h1, h2⟩ | ⟨y, h1, h2⟩
      · have ht2 := hturn h2 h1
        rw [ht2] at hrec
        exact read_begins ht h0 (by simp only [total] at *; omega) (by rw [hn]; exact hfit) hdone hbad hrec
      · have hns : ¬ sound y := by
          rcases h2 with h2 | h2
          · rcases hO with h3 | h3
            · exact absurd rfl h3
            · exact h3 y h2.2
          · exact fun hs => h2.2.1 hs.2.1
        exact ⟨[], List.nil_prefix, by rw [recs_none hrec (fun x hx hg => hns (by rw [h1] at hx; cases hx; exact hg.1))]; rfl⟩
    · have htp : 0 < total done := by
        cases done with
        | nil => exact absurd rfl hd
        | cons r rs => simp only [total]; have := costN_pos r.length; omega
      have ht2 := hturn (hdone 0 htp) (by omega)
      rw [ht2] at hrec
      exact ⟨read_begins ht h0 (by omega) (by rw [hn]; exact hfit) hdone hbad hrec, fun _ => ht2⟩
/-- As it stands. -/
theorem JInv.read {d : Dev} {lo n t : Nat} {Old : List UInt8 → Prop} {done behind out : List (List UInt8)} (h : JInv d lo n t Old done behind) (ht : t < 4294967296) (h0 : t ≠ 0) (hpos : 1 ≤ n) (hO : done ++ behind ≠ [] ∨ ∀ o, Old o → ¬ sound o) :
    KnownAll (readOf d.l d.waits lo n) ∧ (readOf d.l d.waits lo n).length = n ∧ (Recs (turnB ((readOf d.l d.waits lo n).headD [])) (readOf d.l d.waits lo n) out → out = done ++ behind ∧ (done ++ behind ≠ [] → turnB ((readOf d.l d.waits lo n).headD []) = t)) := by
  have hf := h.flush
  have hX : readOf d.l d.waits lo n = readOf (flushTo d.l d.waits) [] lo n := rfl
  rw [hX]
  have hlen := hf.len
  have hfit := hf.fits
  have hlen' : lo + n ≤ (flushTo d.l d.waits).length := hlen
  have hl : (readOf (flushTo d.l d.waits) [] lo n).length = n := by rw [readOf_nil, List.length_take, List.length_drop]; omega
  have hm := read_mixed (X := readOf (flushTo d.l d.waits) [] lo n) (out := out) (done := done ++ behind) (behind := []) (Old := Old) ht h0 hl h.nn hfit hO (fun i hi => by
    rw [readOf_at, if_pos (by simp only [total] at hfit; omega), List.append_nil]; exact hf.there i hi) (fun i h1 h2 => by
    obtain ⟨o, h3, h4, h5⟩ := hf.old i h1 h2
    exact .inr ⟨o, by rw [readOf_at, if_pos h2]; exact h3, .inl ⟨h4, h5⟩⟩) hpos
  refine ⟨hm.1, hl, fun hrec => ?_⟩
  obtain ⟨⟨p, hp, he⟩, h2⟩ := hm.2 hrec
  rw [List.prefix_nil.1 hp, List.append_nil] at he
  exact ⟨he, h2⟩
/-- Behind a crash. -/
theorem JInv.crash {d : Dev} {lo n t : Nat} {Old : List UInt8 → Prop} {done behind out : List (List UInt8)} (h : JInv d lo n t Old done behind) (keep : Nat) (torn bytes : Int) (ht : t < 4294967296) (h0 : t ≠ 0) (hpos : 1 ≤ n) (hO : done ≠ [] ∨ ∀ o, Old o → ¬ sound o) (l' : List (List UInt8)) (hl' : l' = crashTo keep torn bytes d.l d.waits d.waits.length) :
    l'.length = d.l.length ∧ (∀ x ∈ l', x.length = 64) ∧ KnownAll (readOf l' [] lo n) ∧ (readOf l' [] lo n).length = n ∧ (Recs (turnB ((readOf l' [] lo n).headD [])) (readOf l' [] lo n) out → (∃ p, p <+: behind ∧ out = done ++ p) ∧ (done ≠ [] → turnB ((readOf l' [] lo n).headD []) = t)) := by
  have hlen := h.len
  have hfit := h.fits
  have hnn := h.nn
  have hsl := secsOf_length t behind (total done)
  have hwl : d.waits.length = total behind := by rw [h.waits, wat_length, hsl]
  obtain ⟨c1, c2, c3⟩ := crashTo_wat keep torn bytes (secsOf t (total done) behind) d.l (lo + total done) (by rw [hsl]; omega) (secsOf_64 _ _ _) h.l64 (total behind) (by rw [hsl]; exact Nat.le_refl _)
  rw [← h.waits, ← hwl, ← hl'] at c1 c2 c3
  rw [hwl] at c2 c3
  have hl : (readOf l' [] lo n).length = n := by rw [readOf_nil, List.length_take, List.length_drop]; omega
  have hmixed : ∀ j, j < total behind → ∃ x L e, e.length ≤ 47 ∧ (secsOf t 0 (done ++ behind))[total done + j]? = some (packOf t (total done + j) L e) ∧ l'[lo + (total done + j)]? = some x ∧ ((x = packOf t (total done + j) L e) ∨ (clear8 x t (total done + j) ∧ Old x) ∨ (x.length = 64 ∧ ¬ stampsAlike x ∧ ¬ ∀ b ∈ x, b = 0)) := fun j hj => by
    obtain ⟨f, hf⟩ := getElem?_some_lt (show j < (secsOf t (total done) behind).length by rw [hsl]; exact hj)
    obtain ⟨o, ho, ho1, ho2⟩ := h.old (total done + j) (by omega) (by omega)
    obtain ⟨L, e, h1, h2⟩ := secsOf_at t behind (total done) j f hf
    obtain ⟨x, h3, h4⟩ := c3 j f o hj hf (by rw [Nat.add_assoc]; exact ho)
    have hs : (secsOf t 0 (done ++ behind))[total done + j]? = some f := by
      rw [secsOf_append, Nat.zero_add, List.getElem?_append_right (by rw [secsOf_length]; omega), secsOf_length, show total done + j - total done = j by omega]
      exact hf
    rw [h2] at h4
    refine ⟨x, L, e, h1, by rw [hs, h2], by rw [← Nat.add_assoc]; exact h3, ?_⟩
    rcases mix_cases h1 ho1 h4 with h5 | h5 | h5
    · exact .inl h5
    · exact .inr (.inl (by rw [h5]; exact ⟨ho1, ho2⟩))
    · exact .inr (.inr h5)
  have h64 : ∀ x ∈ l', x.length = 64 := fun x hx => by
    obtain ⟨i, hi⟩ := List.getElem?_of_mem hx
    by_cases hin : lo + total done ≤ i ∧ i < lo + total done + total behind
    · obtain ⟨y, L, e, h1, _, h3, h4⟩ := hmixed (i - lo - total done) (by omega)
      rw [show lo + (total done + (i - lo - total done)) = i by omega, hi] at h3
      cases h3
      rcases h4 with h4 | h4 | h4
      · rw [h4]; exact pack_len h1
      · exact h4.1.1
      · exact h4.1
    · rw [c2 i hin] at hi
      exact h.l64 x (List.mem_of_getElem? hi)
  have hm := read_mixed (X := readOf l' [] lo n) (out := out) (done := done) (behind := behind) (Old := Old) ht h0 hl hnn hfit hO (fun i hi => by
    rw [readOf_at, if_pos (by omega), c2 (lo + i) (by omega), h.there i hi, secsOf_append, List.getElem?_append_left (by rw [secsOf_length]; exact hi)]) (fun i h1 h2 => by
    rw [readOf_at, if_pos h2]
    rcases Nat.lt_or_ge i (total done + total behind) with h3 | h3
    · obtain ⟨x, L, e, g1, g2, g3, g4⟩ := hmixed (i - total done) (by omega)
      rw [show total done + (i - total done) = i by omega] at g2 g3 g4
      rcases g4 with g4 | g4
      · exact .inl ⟨h3, by rw [g2, g3, g4]⟩
      · exact .inr ⟨x, g3, g4⟩
    · obtain ⟨o, h4, h5, h6⟩ := h.old i h1 h2
      exact .inr ⟨o, by rw [c2 (lo + i) (by omega)]; exact h4, .inl ⟨h5, h6⟩⟩) hpos
  exact ⟨c1, h64, hm.1, hl, hm.2⟩
/-- A journal's sectors that are all nothing. -/
theorem JInv.fresh {d : Dev} {lo n t : Nat} (hlen : lo + n ≤ d.l.length) (h64 : ∀ x ∈ d.l, x.length = 64) (hz : ∀ i, i < n → d.l[lo + i]? = some (zb 64)) (hw : d.waits = []) (ht : t < 4294967296) (h0 : t ≠ 0) (hn : n ≤ 8192) : JInv d lo n t (fun o => ¬ sound o) [] [] :=
  ⟨hlen, h64, fun i hi => by simp [total] at hi, fun i _ hi => ⟨zb 64, hz i hi, zb_clear8 ht h0, fun h => h.1 (fun b hb => (List.mem_replicate.1 hb).2)⟩, by rw [hw]; rfl, by simp [total], hn⟩
theorem zb_known : known (zb 64) := ⟨by simp, .inl (fun b hb => (List.mem_replicate.1 hb).2)⟩
/-- What was wiped. -/
theorem wiped_at {l : List (List UInt8)} {lo n : Nat} (hlen : lo + n ≤ l.length) (h64 : ∀ x ∈ l, x.length = 64) : (flushTo l (wat lo (List.replicate n (zb 64)))).length = l.length ∧ (∀ x ∈ flushTo l (wat lo (List.replicate n (zb 64))), x.length = 64) ∧ ∀ i, i < n → (flushTo l (wat lo (List.replicate n (zb 64))))[lo + i]? = some (zb 64) := by
  have h := flushTo_wat (List.replicate n (zb 64)) l lo (by rw [List.length_replicate]; exact hlen)
  refine ⟨h.1, wat_set64 (by rw [List.length_replicate]; exact hlen) (fun x hx => by rw [(List.mem_replicate.1 hx).2]; simp) h64, fun i hi => ?_⟩
  rw [h.2, if_pos (by rw [List.length_replicate]; omega), List.getElem?_replicate, if_pos (by omega)]
end Go.Proofs.Ytjhkhdockiocgaa
