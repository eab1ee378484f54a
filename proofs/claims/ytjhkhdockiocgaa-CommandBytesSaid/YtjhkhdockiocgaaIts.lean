/- Plain words: a command's items, their bytes; unlike items have unlike bytes. -/
import Derived.Test.YtjhkhdockiocgaaOnly
import Derived.Test.YtjhkhdockiocgaaCmdOk
import Derived.Test.YtjhkhdockiocgaaCmd5
import Derived.Test.YtjhkhdockiocgaaBe
namespace Go.Proofs.Ytjhkhdockiocgaa
open Go.RowKit Go.Cat

/-- One item of a command's bytes. -/
inductive It where
  | t (s : List UInt8)
  | n (x : Int)
  | p (l : List Pnt)
def It.ok : It → Prop
  | .t s => s.length ≤ 255
  | .n x => I64 x
  | .p l => l.length ≤ 255 ∧ ∀ p ∈ l, I64 p.at_ ∧ I64 p.val
def It.short : It → Prop
  | .t s => s.length ≤ 255
  | .n _ => True
  | .p l => l.length ≤ 255
def It.enc : It → List UInt8
  | .t s => be s.length 2 ++ s
  | .n x => i8 x
  | .p l => be l.length 2 ++ penc l
def It.shape : It → Nat
  | .t _ => 0
  | .n _ => 1
  | .p _ => 2
def encIts (l : List It) : List UInt8 := l.flatMap It.enc
def Cmd.its (x : Cmd) (ps : List Pnt) : List It :=
  if x.kind = 0 ∨ x.kind = 1 then [.t x.tenant, .n x.bytes, .n x.count]
  else if x.kind = 2 then [.t x.tenant]
  else if x.kind = 3 then [.t x.tenant, .t x.series, .p ps]
  else if x.kind = 4 then [.t x.tenant, .n x.praw, .n x.pmid, .n x.plong]
  else if x.kind = 5 then [.t x.tenant, .t x.hname, .t x.hser, .n x.hlo, .n x.hhi]
  else if x.kind = 6 then [.t x.tenant, .t x.name]
  else if x.kind = 7 then [.t x.tenant, .t x.series, .n x.rlo, .n x.rhi]
  else if x.kind = 8 then [.n x.at_]
  else if x.kind = 9 then [.n x.bytes]
  else []
def shapes (k : Int) : List Nat :=
  if k = 0 ∨ k = 1 then [0, 1, 1]
  else if k = 2 then [0]
  else if k = 3 then [0, 0, 2]
  else if k = 4 then [0, 1, 1, 1]
  else if k = 5 then [0, 0, 0, 1, 1]
  else if k = 6 then [0, 0]
  else if k = 7 then [0, 0, 1, 1]
  else if k = 8 then [1]
  else if k = 9 then [1]
  else []
theorem its_shapes (x : Cmd) (ps : List Pnt) : (x.its ps).map It.shape = shapes x.kind := by
  unfold Cmd.its shapes
  repeat' split
  all_goals rfl
def itStep (st : List UInt8 × Int) : It → List UInt8 × Int
  | .t s => tstep st s
  | .n x => istep st x
  | .p l => pstep st l
theorem run_its (x : Cmd) (ps : List Pnt) (st : List UInt8 × Int) : x.run ps st = (x.its ps).foldl itStep st := by
  unfold Cmd.run Cmd.its
  repeat' split
  all_goals rfl
theorem itStep_short (st : List UInt8 × Int) (i : It) (h : i.short) : itStep st i = (st.1 ++ i.enc, st.2) := by
  cases i with
  | t s => simp only [It.short] at h; simp [itStep, tstep, It.enc, show ¬ 255 < s.length by omega]
  | n x => rfl
  | p l => simp only [It.short] at h; simp [itStep, pstep, It.enc, show ¬ 255 < l.length by omega]
theorem itStep_long (st : List UInt8 × Int) (i : It) (h : ¬ i.short) : (itStep st i).2 = 12 := by
  cases i with
  | t s => simp only [It.short] at h; simp [itStep, tstep, show 255 < s.length by omega]
  | n x => exact absurd trivial h
  | p l => simp only [It.short] at h; simp [itStep, pstep, show 255 < l.length by omega]
theorem fold_bad : ∀ (l : List It) (st : List UInt8 × Int), st.2 = 12 → (l.foldl itStep st).2 = 12
  | [], _, h => h
  | i :: l, st, h => by
    refine fold_bad l _ ?_
    by_cases hs : i.short
    · rw [itStep_short _ _ hs]; exact h
    · exact itStep_long _ _ hs
theorem fold_short : ∀ (l : List It) (st : List UInt8 × Int), (∀ i ∈ l, i.short) → l.foldl itStep st = (st.1 ++ encIts l, st.2)
  | [], st, _ => by simp [encIts]
  | i :: l, st, h => by
    rw [List.foldl_cons, itStep_short _ _ (h i (by simp)), fold_short l _ (fun j hj => h j (by simp [hj]))]
    simp [encIts]
theorem fold_long : ∀ (l : List It) (st : List UInt8 × Int), (∃ i ∈ l, ¬ i.short) → (l.foldl itStep st).2 = 12
  | [], _, h => by obtain ⟨i, h, _⟩ := h; simp at h
  | i :: l, st, h => by
    by_cases hs : i.short
    · refine fold_long l _ ?_
      obtain ⟨j, hj, hn⟩ := h
      rcases List.mem_cons.1 hj with rfl | hj
      · exact absurd hs hn
      · exact ⟨j, hj, hn⟩
    · exact fold_bad l _ (itStep_long _ _ hs)
theorem out_zero (x : Cmd) (ps : List Pnt) (h : (x.out ps).2 = 0) : (∀ i ∈ x.its ps, i.short) ∧ (x.out ps).1 = be x.kind.toNat 1 ++ encIts (x.its ps) := by
  unfold Cmd.out at *
  rw [run_its] at *
  by_cases hs : ∀ i ∈ x.its ps, i.short
  · refine ⟨hs, ?_⟩
    rw [fold_short _ _ hs]
  · have : ∃ i ∈ x.its ps, ¬ i.short := Classical.byContradiction fun hn => hs fun i hi => Classical.byContradiction fun hq => hn ⟨i, hi, hq⟩
    rw [fold_long _ _ this] at h
    simp at h
theorem its_ok (x : Cmd) (ps : List Pnt) (h : x.Ok ps) (hs : ∀ i ∈ x.its ps, i.short) : ∀ i ∈ x.its ps, i.ok := by
  intro i hi
  have h1 := hs i hi
  cases i with
  | t s => exact h1
  | n y =>
    show I64 y
    unfold Cmd.its at hi
    obtain ⟨a1, a2, a3, a4, a5, a6, a7, a8, a9, a10, a11, a12⟩ := h
    repeat' split at hi
    all_goals
      simp only [List.mem_cons, List.not_mem_nil, or_false, It.n.injEq, reduceCtorEq, false_or] at hi
    all_goals first
      | exact hi.elim
      | (subst hi; assumption)
      | (rcases hi with rfl | rfl <;> assumption)
      | (rcases hi with rfl | rfl | rfl <;> assumption)
  | p l =>
    refine ⟨h1, ?_⟩
    have : l = ps := by
      unfold Cmd.its at hi
      repeat' split at hi
      all_goals
        simp only [List.mem_cons, List.not_mem_nil, or_false, It.p.injEq, reduceCtorEq, false_or] at hi
      all_goals first
        | exact hi.elim
        | exact hi
    subst this
    exact h.pts
theorem i8_eq {x y : Int} (hx : I64 x) (hy : I64 y) (h : i8 x = i8 y) : x = y := by
  unfold I64 at *
  have := be_eq (n := 8) (by omega) (by omega) h
  omega
theorem pnt_split {a b : Pnt} {r s : List UInt8} (ha : I64 a.at_ ∧ I64 a.val) (hb : I64 b.at_ ∧ I64 b.val) (h : a.enc ++ r = b.enc ++ s) : a = b ∧ r = s := by
  obtain ⟨h1, h2⟩ := List.append_inj h (by simp)
  unfold Pnt.enc at h1
  obtain ⟨h3, h4⟩ := List.append_inj h1 (by simp)
  have e1 := i8_eq ha.1 hb.1 h3
  have e2 := i8_eq ha.2 hb.2 h4
  refine ⟨?_, h2⟩
  obtain ⟨p, q⟩ := a; obtain ⟨p', q'⟩ := b
  simp only at e1 e2
  rw [e1, e2]
theorem penc_split : ∀ (a b : List Pnt) (r s : List UInt8), a.length = b.length → (∀ p ∈ a, I64 p.at_ ∧ I64 p.val) → (∀ p ∈ b, I64 p.at_ ∧ I64 p.val) → penc a ++ r = penc b ++ s → a = b ∧ r = s
  | [], [], r, s, _, _, _, h => ⟨rfl, by simpa [penc] using h⟩
  | [], _ :: _, _, _, h, _, _, _ => by simp at h
  | _ :: _, [], _, _, h, _, _, _ => by simp at h
  | x :: a, y :: b, r, s, hl, ha, hb, h => by
    simp only [penc, List.flatMap_cons, List.append_assoc] at h
    obtain ⟨rfl, h2⟩ := pnt_split (ha x (by simp)) (hb y (by simp)) h
    obtain ⟨rfl, h3⟩ := penc_split a b r s (by simpa using hl) (fun p hp => ha p (by simp [hp])) (fun p hp => hb p (by simp [hp])) h2
    exact ⟨rfl, h3⟩
theorem it_split {a b : It} {r s : List UInt8} (hs : a.shape = b.shape) (ha : a.ok) (hb : b.ok) (h : a.enc ++ r = b.enc ++ s) : a = b ∧ r = s := by
  cases a with
  | t x =>
    cases b with
    | t y =>
      simp only [It.ok] at ha hb
      simp only [It.enc, List.append_assoc] at h
      obtain ⟨h1, h2⟩ := List.append_inj h (by simp)
      have e := be_eq (n := 2) (by omega) (by omega) h1
      obtain ⟨h3, h4⟩ := List.append_inj h2 e
      exact ⟨by rw [h3], h4⟩
    | n y => cases hs
    | p y => cases hs
  | n x =>
    cases b with
    | t y => cases hs
    | n y =>
      obtain ⟨h1, h2⟩ := List.append_inj h (by simp [It.enc])
      exact ⟨by rw [i8_eq ha hb h1], h2⟩
    | p y => cases hs
  | p x =>
    cases b with
    | t y => cases hs
    | n y => cases hs
    | p y =>
      obtain ⟨a1, a2⟩ := ha
      obtain ⟨b1, b2⟩ := hb
      simp only [It.enc, List.append_assoc] at h
      obtain ⟨h1, h2⟩ := List.append_inj h (by simp)
      have e := be_eq (n := 2) (by omega) (by omega) h1
      obtain ⟨h3, h4⟩ := penc_split x y r s e a2 b2 h2
      exact ⟨by rw [h3], h4⟩
theorem its_split : ∀ (a b : List It) (r s : List UInt8), a.map It.shape = b.map It.shape → (∀ i ∈ a, i.ok) → (∀ i ∈ b, i.ok) → encIts a ++ r = encIts b ++ s → a = b ∧ r = s
  | [], [], r, s, _, _, _, h => ⟨rfl, by simpa [encIts] using h⟩
  | [], _ :: _, _, _, h, _, _, _ => by simp at h
  | _ :: _, [], _, _, h, _, _, _ => by simp at h
  | x :: a, y :: b, r, s, hl, ha, hb, h => by
    simp only [List.map_cons, List.cons.injEq] at hl
    simp only [encIts, List.flatMap_cons, List.append_assoc] at h
    obtain ⟨rfl, h2⟩ := it_split hl.1 (ha x (by simp)) (hb y (by simp)) h
    obtain ⟨rfl, h3⟩ := its_split a b r s hl.2 (fun p hp => ha p (by simp [hp])) (fun p hp => hb p (by simp [hp])) h2
    exact ⟨rfl, h3⟩

/-- The same, field by field. -/
def Cmd.like (a b : Cmd) (ps qs : List Pnt) : Prop :=
  a.kind = b.kind ∧ a.tenant = b.tenant ∧ a.series = b.series ∧ a.name = b.name ∧ (a.rlo = b.rlo ∧ a.rhi = b.rhi) ∧ (a.praw = b.praw ∧ a.pmid = b.pmid ∧ a.plong = b.plong) ∧ (a.hname = b.hname ∧ a.hser = b.hser ∧ a.hlo = b.hlo ∧ a.hhi = b.hhi) ∧ a.bytes = b.bytes ∧ a.count = b.count ∧ a.at_ = b.at_ ∧ ps = qs
theorem like_its (a b : Cmd) (ps qs : List Pnt) (va vb : Value) : (a.only va).like (b.only vb) (a.onlyPs ps) (b.onlyPs qs) ↔ (a.kind = b.kind ∧ a.its ps = b.its qs) := by
  by_cases hk : a.kind = b.kind
  · unfold Cmd.like Cmd.only Cmd.onlyPs Cmd.its
    simp only [hk, true_and]
    generalize b.kind = k
    by_cases h0 : k = 0
    · simp [h0]
    by_cases h1 : k = 1
    · simp [h1]
    by_cases h2 : k = 2
    · simp [h2]
    by_cases h3 : k = 3
    · simp [h3]
    by_cases h4 : k = 4
    · simp [h4]
    by_cases h5 : k = 5
    · simp [h5]
    by_cases h6 : k = 6
    · simp [h6]
    by_cases h7 : k = 7
    · simp [h7]
    by_cases h8 : k = 8
    · simp [h8]
    by_cases h9 : k = 9
    · simp [h9]
    simp [h0, h1, h2, h3, h4, h5, h6, h7, h8, h9]
  · constructor
    · intro h; exact absurd h.1 hk
    · intro h; exact absurd h.1 hk
theorem unlike_close (a b : Cmd) (ps qs : List Pnt) (va vb : Value) (ha : a.Ok ps) (hb : b.Ok qs) (ka : 0 ≤ a.kind ∧ a.kind < 10) (kb : 0 ≤ b.kind ∧ b.kind < 10) (za : (a.out ps).2 = 0) (zb : (b.out qs).2 = 0) :
    (a.out ps).1 = (b.out qs).1 ↔ (a.only va).like (b.only vb) (a.onlyPs ps) (b.onlyPs qs) := by
  rw [like_its]
  obtain ⟨sa, ea⟩ := out_zero a ps za
  obtain ⟨sb, eb⟩ := out_zero b qs zb
  rw [ea, eb]
  constructor
  · intro h
    obtain ⟨h1, h2⟩ := List.append_inj h (by simp)
    have e := be_eq (n := 1) (by omega) (by omega) h1
    have hk : a.kind = b.kind := by omega
    refine ⟨hk, ?_⟩
    have h3 := its_split (a.its ps) (b.its qs) [] [] (by rw [its_shapes, its_shapes, hk]) (its_ok a ps ha sa) (its_ok b qs hb sb) (by simpa using h2)
    exact h3.1
  · rintro ⟨h1, h2⟩
    rw [h1, h2]
end Go.Proofs.Ytjhkhdockiocgaa
