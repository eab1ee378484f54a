/- What the loop of journal.records holds, and its two steps. No program's function is named. -/
import Derived.Test.YtjhkhdockiocgaaRecPure
namespace Go.Proofs.Ytjhkhdockiocgaa
open Go.RowKit Go.Cat

theorem owns_isCells {w : World} {size : Nat} {v : Value} {n : Nat} {xs : List Value} (h : Owns w size v n xs) (hx : xs ≠ []) : ∀ q, v.ownBlock = some q → ∃ o : Obj, w.heap[q]? = some o ∧ o.isCells = true := by
  intro q hq
  rcases h.2 with ⟨rfl, _⟩ | ⟨g, o, cap, rfl, _, _, _, h4, _⟩
  · simp [Value.ownBlock] at hq
  · simp [Value.ownBlock] at hq
    subst hq
    obtain ⟨x, r, rfl⟩ := List.exists_cons_of_ne_nil hx
    exact cells_of_cell (h4 0 x (by simp))

/-- Sectors pre are gone through; the boxes bo, bp, bq bear the records, the open sectors, the place. -/
structure RecJ (bo bp bq : Nat) (w5 : World) (t : Nat) (pre out : List (List UInt8)) (W : World) (c : Nat) (acc : List UInt8) (ss : List Sec) (ov pv : Value) (vs : List Value) (F G : Nat → Prop) : Prop where
  run : RunTo t pre c acc out
  ho : W.heap[bo]? = some (.cells #[ov] 43 (0, 0))
  hp : W.heap[bp]? = some (.cells #[pv] 132 (0, 0))
  hq : W.heap[bq]? = some (.cells #[.int .u32 (pre.length : Int)] 51 (0, 0))
  oown : Owns W 1 ov out.length vs
  oel : ∀ (i : Nat) u l, vs[i]? = some u → out[i]? = some l → RB W u l
  oF : ∀ q, ov.ownBlock = some q → F q
  oap : ∀ u ∈ vs, ∀ q, u.ownBlock = some q → F q ∧ ov.ownBlock ≠ some q
  secs : SecsF W G pv ss
  sok : SsOk t pre.length ss
  hacc : dataOf ss = acc
  hc : ss.length = c
  sep : ∀ q, F q → ¬ G q
  rng : ∀ q, F q ∨ G q → w5.heap.size ≤ q ∧ q < W.heap.size
  zo : out = [] → ov = .slice none 0 0
  zp : ss = [] → pv = .slice none 0 0
  chg : Chg (fun q => q = bo ∨ q = bp ∨ q = bq) w5 W
def RecI (bo bp bq : Nat) (w5 : World) (t : Nat) (pre out : List (List UInt8)) (W : World) : Prop := ∃ c acc ss ov pv vs F G, RecJ bo bp bq w5 t pre out W c acc ss ov pv vs F G
variable {bo bp bq : Nat} {w5 W : World} {t : Nat} {pre out : List (List UInt8)} {c : Nat} {acc : List UInt8} {ss : List Sec} {ov pv : Value} {vs : List Value} {F G : Nat → Prop}
theorem RecJ.outs (h : RecJ bo bp bq w5 t pre out W c acc ss ov pv vs F G) : OutsF W F ov out := ⟨vs, h.oown, h.oel, h.oF, h.oap⟩
theorem RecI.other {W' : World} (h : RecI bo bp bq w5 t pre out W) {S : Nat → Prop} (c : Chg S W W') (hS : NoCells W S) (hb : ∀ q, S q → w5.heap.size ≤ q) : RecI bo bp bq w5 t pre out W' := by
  obtain ⟨c', acc, ss, ov, pv, vs, F, G, h⟩ := h
  exact ⟨c', acc, ss, ov, pv, vs, F, G, h.run, c.heap h.ho (hS.notB h.ho), c.heap h.hp (hS.notB h.hp), c.heap h.hq (hS.notB h.hq), h.oown.other c hS, fun i u l hu hl => (h.oel i u l hu hl).other c hS, h.oF, h.oap, h.secs.other c hS, h.sok, h.hacc, h.hc, h.sep,
    fun q hq => ⟨(h.rng q hq).1, Nat.lt_of_lt_of_le (h.rng q hq).2 c.size⟩, h.zo, h.zp, h.chg.trans' c (fun i hi hs => by have := hb i hs; omega)⟩
theorem RecI.start (h1 : w5.heap[bo]? = some (.cells #[.slice none 0 0] 43 (0, 0))) (h2 : w5.heap[bp]? = some (.cells #[.slice none 0 0] 132 (0, 0))) (h3 : w5.heap[bq]? = some (.cells #[.int .u32 0] 51 (0, 0))) : RecI bo bp bq w5 t [] [] w5 :=
  ⟨0, [], [], _, _, [], fun _ => False, fun _ => False, .nil, h1, h2, h3, Owns.nil _ _, by simp, by simp [Value.ownBlock], by simp, SecsF.nil _ _, SsOk.nil _ _, rfl, rfl, fun _ h => h.elim, fun q h => by rcases h with h | h <;> exact h.elim, fun _ => rfl, fun _ => rfl, Chg.refl _ _⟩
/-- The boxes lie below the loop's world, each apart. -/
structure Boxes3 (bo bp bq : Nat) (w5 : World) : Prop where
  lo : bo < w5.heap.size
  lp : bp < w5.heap.size
  lq : bq < w5.heap.size
  op : bo ≠ bp
  oq : bo ≠ bq
  pq : bp ≠ bq
/-- What a round leaves of the world: cells alone turn, and of the elder ones only the boxes. -/
def RoundOk (bo bp bq : Nat) (w5 W W' : World) : Prop := KeepsOthers W W' ∧ ∀ k, k < w5.heap.size → k ≠ bo → k ≠ bp → k ≠ bq → W'.heap[k]? = W.heap[k]?
theorem RoundOk.of {S : Nat → Prop} {W' : World} (c : Chg S W W') (hw : w5.heap.size ≤ W.heap.size) (hS : ∀ q, S q → q = bo ∨ q = bp ∨ q = bq ∨ w5.heap.size ≤ q) (hC : ∀ q, q < W.heap.size → S q → ∃ o : Obj, W.heap[q]? = some o ∧ o.isCells = true) : RoundOk bo bp bq w5 W W' :=
  ⟨keepsOthers_chg c hC, fun k hk h1 h2 h3 => c.block k (by omega) (fun hs => by rcases hS k hs with h | h | h | h <;> omega)⟩

theorem RecJ.in3 (h : RecJ bo bp bq w5 t pre out W c acc ss ov pv vs F G) (hB : Boxes3 bo bp bq w5) {W2 w3 : World} (c12 : Chg (fun q => q = bq) W W2) (hq2 : W2.heap[bq]? = some (.cells #[.int .u32 ((pre.length : Int) + 1)] 51 (0, 0))) (c3 : Chg (fun k => pv.ownBlock = some k) W2 w3) :
    w3.heap[bp]? = some (.cells #[pv] 132 (0, 0)) ∧ w3.heap[bo]? = some (.cells #[ov] 43 (0, 0)) ∧ w3.heap[bq]? = some (.cells #[.int .u32 ((pre.length : Int) + 1)] 51 (0, 0)) := by
  have hne : ∀ q, q < w5.heap.size → ¬ pv.ownBlock = some q := fun q hq h' => by have := (h.rng q (.inr (h.secs.2.1 q h'))).1; omega
  exact ⟨c3.heap (c12.heap h.hp hB.pq) (hne _ hB.lp), c3.heap (c12.heap h.ho hB.oq) (hne _ hB.lo), c3.heap hq2 (hne _ hB.lq)⟩
theorem RecJ.w2 (h : RecJ bo bp bq w5 t pre out W c acc ss ov pv vs F G) (hB : Boxes3 bo bp bq w5) {W2 : World} (c12 : Chg (fun q => q = bq) W W2) : Owns W2 4 pv ss.length (flat ss) ∧ SecsF W2 G pv ss := by
  have k6 := h.secs.kept c12 (fun q hq e => by have := (h.rng q (.inr hq)).1; have := hB.lq; omega)
  exact ⟨k6.1, k6⟩
/-- The sector is put to the open ones: behind the store. -/
theorem RecJ.open (h : RecJ bo bp bq w5 t pre out W c acc ss ov pv vs F G) (hB : Boxes3 bo bp bq w5) {W2 w3 : World} {dv v' : Value} {d : List UInt8} {L : Bool} (c12 : Chg (fun q => q = bq) W W2) (hq2 : W2.heap[bq]? = some (.cells #[.int .u32 ((pre.length : Int) + 1)] 51 (0, 0)))
    (hob : RB W2 dv d) (hlo : ∀ q, dv.ownBlock = some q → W.heap.size ≤ q)
    (own3 : Owns w3 4 v' (ss.length + 1) (flat ss ++ [.int .u32 t, .int .u32 (pre.length : Int), .bool L, dv])) (c3 : Chg (fun k => pv.ownBlock = some k) W2 w3) (in3 : ∀ k, v'.ownBlock = some k → pv.ownBlock = some k ∨ W2.heap.size ≤ k) :
    ∃ G', SecsF (w3.setCell ⟨bp, 0, none⟩ v') G' v' (ss ++ [⟨t, pre.length, L, dv, d⟩]) ∧ (∀ q, F q → ¬ G' q) ∧ (∀ q, G' q → w5.heap.size ≤ q ∧ q < w3.heap.size) ∧
      (w3.setCell ⟨bp, 0, none⟩ v').heap[bp]? = some (.cells #[v'] 132 (0, 0)) ∧ (w3.setCell ⟨bp, 0, none⟩ v').heap[bo]? = some (.cells #[ov] 43 (0, 0)) ∧ (w3.setCell ⟨bp, 0, none⟩ v').heap[bq]? = some (.cells #[.int .u32 ((pre.length : Int) + 1)] 51 (0, 0)) ∧
      Owns (w3.setCell ⟨bp, 0, none⟩ v') 1 ov out.length vs ∧ (∀ (i : Nat) u l, vs[i]? = some u → out[i]? = some l → RB (w3.setCell ⟨bp, 0, none⟩ v') u l) ∧
      Chg (fun q => q = bq ∨ q = bp ∨ pv.ownBlock = some q) W (w3.setCell ⟨bp, 0, none⟩ v') := by
  have hz5 := h.chg.size
  have hz12 := c12.size
  have hz3 := c3.size
  obtain ⟨g1, g2, g3⟩ := h.in3 hB c12 hq2 c3
  have k6 := (h.w2 hB c12).2
  have hpu := SecsF.push (s := ⟨t, pre.length, L, dv, d⟩) (lo := W.heap.size) k6 hob (fun q hq => (h.rng q (.inr hq)).2) hz12 hlo own3 c3 in3
  have cS : Chg (fun q => q = bp) w3 (w3.setCell ⟨bp, 0, none⟩ v') := Chg.setCell (S := fun q => q = bp) (Chg.refl _ w3) (p := ⟨bp, 0, none⟩) (fun _ => rfl) v'
  have hc13 : Chg (fun q => q = bq ∨ pv.ownBlock = some q) W w3 := (c12.mono (fun _ _ e => .inl e)).trans' c3 (fun _ _ e => .inr e)
  have hFn : ∀ q, F q → ¬ (q = bq ∨ pv.ownBlock = some q) := fun q hq e => by
    rcases e with e | e
    · have := (h.rng q (.inl hq)).1; have := hB.lq; omega
    · exact h.sep q hq (h.secs.2.1 q e)
  have hFp : ∀ q, F q → ¬ q = bp := fun q hq e => by have := (h.rng q (.inl hq)).1; have := hB.lp; omega
  refine ⟨fun q => G q ∨ (W.heap.size ≤ q ∧ q < w3.heap.size), hpu.kept cS (fun q hq e => ?_), fun q hq hg => ?_, fun q hq => ?_, Cat.heap_setCell_same g1 0 v', cS.heap g2 hB.op, cS.heap g3 (fun e => hB.pq e.symm), ?_, ?_, ?_⟩
  · rcases hq with hq | hq
    · have := (h.rng q (.inr hq)).1; have := hB.lp; omega
    · have := hB.lp; omega
  · rcases hg with hg | hg
    · exact h.sep q hq hg
    · have := (h.rng q (.inl hq)).2; omega
  · rcases hq with hq | hq
    · have := h.rng q (.inr hq); omega
    · omega
  · exact (h.oown.kept hc13 (fun q hq => hFn q (h.oF q hq))).kept cS (fun q hq => hFp q (h.oF q hq))
  · intro i u l hu hl
    have hm := List.mem_of_getElem? hu
    exact ((h.oel i u l hu hl).kept hc13 (fun q hq => hFn q (h.oap u hm q hq).1)).kept cS (fun q hq => hFp q (h.oap u hm q hq).1)
  · exact (hc13.mono (fun q _ e => by rcases e with e | e; exact .inl e; exact .inr (.inr e))).trans' cS (fun q _ e => .inr (.inl e))
theorem RecJ.cells (h : RecJ bo bp bq w5 t pre out W c acc ss ov pv vs F G) : ∀ q, q = bo ∨ q = bp ∨ q = bq ∨ pv.ownBlock = some q ∨ ov.ownBlock = some q → ∃ o : Obj, W.heap[q]? = some o ∧ o.isCells = true := by
  intro q hq
  rcases hq with rfl | rfl | rfl | hq | hq
  · exact ⟨_, h.ho, rfl⟩
  · exact ⟨_, h.hp, rfl⟩
  · exact ⟨_, h.hq, rfl⟩
  · by_cases hs : ss = []
    · rw [h.zp hs] at hq; simp [Value.ownBlock] at hq
    · refine owns_isCells h.secs.1 (fun e => hs ?_) q hq
      have h0 : ss.length * 4 = 0 := by rw [← flat_length, e]; rfl
      exact List.eq_nil_of_length_eq_zero (by omega)
  · by_cases hs : out = []
    · rw [h.zo hs] at hq; simp [Value.ownBlock] at hq
    · refine owns_isCells h.oown (fun e => hs ?_) q hq
      have := h.oown.1
      rw [e] at this
      exact List.eq_nil_of_length_eq_zero (by simpa using this.symm)
/-- A sector that isn't the last one. -/
theorem RecJ.more (h : RecJ bo bp bq w5 t pre out W c acc ss ov pv vs F G) (hB : Boxes3 bo bp bq w5) {W2 w3 : World} {dv v' : Value} {xs : List UInt8} (hgood : goodAt t pre.length xs) (hlast : lastB xs = false) (hd : (bodyB xs).length ≤ 47) (c12 : Chg (fun q => q = bq) W W2) (hq2 : W2.heap[bq]? = some (.cells #[.int .u32 ((pre.length : Int) + 1)] 51 (0, 0)))
    (hob : RB W2 dv (bodyB xs)) (hlo : ∀ q, dv.ownBlock = some q → W.heap.size ≤ q)
    (own3 : Owns w3 4 v' (ss.length + 1) (flat ss ++ [.int .u32 t, .int .u32 (pre.length : Int), .bool false, dv])) (c3 : Chg (fun k => pv.ownBlock = some k) W2 w3) (in3 : ∀ k, v'.ownBlock = some k → pv.ownBlock = some k ∨ W2.heap.size ≤ k) :
    RecI bo bp bq w5 t (pre ++ [xs]) out (w3.setCell ⟨bp, 0, none⟩ v') ∧ RoundOk bo bp bq w5 W (w3.setCell ⟨bp, 0, none⟩ v') := by
  obtain ⟨G', k1, k2, k3, k4, k5, k6, k7, k8, k9⟩ := h.open hB c12 hq2 hob hlo own3 c3 in3
  have hz5 := h.chg.size
  have hz9 := k9.size
  have hpv : ∀ q, pv.ownBlock = some q → w5.heap.size ≤ q := fun q hq => (h.rng q (.inr (h.secs.2.1 q hq))).1
  refine ⟨⟨c + 1, acc ++ bodyB xs, _, ov, v', vs, F, G', .more h.run hgood hlast, k5, k4, ?_, k7, k8, h.oF, h.oap, k1, ?_, ?_, ?_, k2, ?_, h.zo, by simp, ?_⟩, RoundOk.of k9 hz5 (fun q hq => ?_) (fun q _ hq => ?_)⟩
  · rw [k6, List.length_append]; simp
  · rw [List.length_append]; exact h.sok.push rfl rfl rfl hd
  · rw [← h.hacc]; simp [dataOf]
  · simp [h.hc]
  · intro q hq
    rcases hq with hq | hq
    · have := h.rng q (.inl hq); omega
    · have := k3 q hq; simp; omega
  · exact h.chg.trans' k9 (fun q hq e => by
      rcases e with e | e | e
      · exact .inr (.inr e)
      · exact .inr (.inl e)
      · have := hpv q e; omega)
  · rcases hq with e | e | e
    · exact .inr (.inr (.inl e))
    · exact .inr (.inl e)
    · exact .inr (.inr (.inr (hpv q e)))
  · exact h.cells q (by
      rcases hq with e | e | e
      · exact .inr (.inr (.inl e))
      · exact .inr (.inl e)
      · exact .inr (.inr (.inr (.inl e))))
/-- The last sector of a record: the record is put to the others. -/
theorem RecJ.last (h : RecJ bo bp bq w5 t pre out W c acc ss ov pv vs F G) (hB : Boxes3 bo bp bq w5) {W2 w3 W5 w6 : World} {dv v' dv2 ov' : Value} {xs : List UInt8} (hgood : goodAt t pre.length xs) (hlast : lastB xs = true) (c12 : Chg (fun q => q = bq) W W2) (hq2 : W2.heap[bq]? = some (.cells #[.int .u32 ((pre.length : Int) + 1)] 51 (0, 0)))
    (hob : RB W2 dv (bodyB xs)) (hlo : ∀ q, dv.ownBlock = some q → W.heap.size ≤ q)
    (own3 : Owns w3 4 v' (ss.length + 1) (flat ss ++ [.int .u32 t, .int .u32 (pre.length : Int), .bool true, dv])) (c3 : Chg (fun k => pv.ownBlock = some k) W2 w3) (in3 : ∀ k, v'.ownBlock = some k → pv.ownBlock = some k ∨ W2.heap.size ≤ k)
    (c5 : Chg (fun _ => False) (w3.setCell ⟨bp, 0, none⟩ v') W5) (hob5 : RB W5 dv2 (dataOf (ss ++ [⟨t, pre.length, true, dv, bodyB xs⟩]))) (hfr5 : ∀ q, dv2.ownBlock = some q → w3.heap.size ≤ q)
    (own6 : Owns w6 1 ov' (out.length + 1) (vs ++ [dv2])) (c6 : Chg (fun k => ov.ownBlock = some k) W5 w6) (in6 : ∀ k, ov'.ownBlock = some k → ov.ownBlock = some k ∨ W5.heap.size ≤ k) :
    RecI bo bp bq w5 t (pre ++ [xs]) (out ++ [acc ++ bodyB xs]) ((w6.setCell ⟨bo, 0, none⟩ ov').setCell ⟨bp, 0, none⟩ (.slice none 0 0)) ∧ RoundOk bo bp bq w5 W ((w6.setCell ⟨bo, 0, none⟩ ov').setCell ⟨bp, 0, none⟩ (.slice none 0 0)) := by
  obtain ⟨G', k1, k2, k3, k4, k5, k6, k7, k8, k9⟩ := h.open hB c12 hq2 hob hlo own3 c3 in3
  have hz5 := h.chg.size
  have hz12 := c12.size
  have hz3 := c3.size
  have hzc5 : w3.heap.size ≤ W5.heap.size := by have := c5.size; simpa using this
  have hz6 := c6.size
  have hpv : ∀ q, pv.ownBlock = some q → w5.heap.size ≤ q := fun q hq => (h.rng q (.inr (h.secs.2.1 q hq))).1
  have hov : ∀ q, ov.ownBlock = some q → w5.heap.size ≤ q ∧ q < W.heap.size := fun q hq => h.rng q (.inl (h.oF q hq))
  have hdat : dataOf (ss ++ [⟨t, pre.length, true, dv, bodyB xs⟩]) = acc ++ bodyB xs := by rw [← h.hacc]; simp [dataOf]
  rw [hdat] at hob5
  have hpu := OutsF.push (F := F) (lo := w3.heap.size) (k7.kept c5 (fun _ _ e => e)) (fun i u l hu hl => (k8 i u l hu hl).kept c5 (fun _ _ e => e)) h.oF h.oap hob5 (fun q hq => by have := (h.rng q (.inl hq)).2; omega) hzc5 hfr5 own6 c6 in6
  have cO : Chg (fun q => q = bo) w6 (w6.setCell ⟨bo, 0, none⟩ ov') := Chg.setCell (S := fun q => q = bo) (Chg.refl _ w6) (p := ⟨bo, 0, none⟩) (fun _ => rfl) ov'
  have cP : Chg (fun q => q = bp) (w6.setCell ⟨bo, 0, none⟩ ov') ((w6.setCell ⟨bo, 0, none⟩ ov').setCell ⟨bp, 0, none⟩ (.slice none 0 0)) := Chg.setCell (S := fun q => q = bp) (Chg.refl _ _) (p := ⟨bp, 0, none⟩) (fun _ => rfl) _
  have hne : ∀ q, q < w5.heap.size → ¬ ov.ownBlock = some q := fun q hq e => by have := (hov q e).1; omega
  have e1 : w6.heap[bo]? = some (.cells #[ov] 43 (0, 0)) := c6.heap (c5.heap k5 (fun e => e)) (hne _ hB.lo)
  have e2 : w6.heap[bp]? = some (.cells #[v'] 132 (0, 0)) := c6.heap (c5.heap k4 (fun e => e)) (hne _ hB.lp)
  have e3 : w6.heap[bq]? = some (.cells #[.int .u32 ((pre.length : Int) + 1)] 51 (0, 0)) := c6.heap (c5.heap k6 (fun e => e)) (hne _ hB.lq)
  have hall : Chg (fun q => q = bo ∨ q = bp ∨ q = bq ∨ pv.ownBlock = some q ∨ ov.ownBlock = some q) W ((w6.setCell ⟨bo, 0, none⟩ ov').setCell ⟨bp, 0, none⟩ (.slice none 0 0)) := by
    have a1 := (k9.trans (c5.mono (fun _ _ e => e.elim))).mono (T := fun q => q = bo ∨ q = bp ∨ q = bq ∨ pv.ownBlock = some q ∨ ov.ownBlock = some q) (fun q _ e => by
      rcases e with e | e | e
      · exact .inr (.inr (.inl e))
      · exact .inr (.inl e)
      · exact .inr (.inr (.inr (.inl e))))
    have a2 := a1.trans' c6 (fun q _ e => .inr (.inr (.inr (.inr e))))
    have a3 := a2.trans' cO (fun q _ e => .inl e)
    exact a3.trans' cP (fun q _ e => .inr (.inl e))
  have hF' : ∀ q, F q ∨ (w3.heap.size ≤ q ∧ q < w6.heap.size) → w5.heap.size ≤ q ∧ q < w6.heap.size := fun q hq => by
    rcases hq with hq | hq
    · have := h.rng q (.inl hq); omega
    · omega
  obtain ⟨vs', o1, o2, o3, o4⟩ := (hpu.kept cO (fun q hq e => by have := (hF' q hq).1; have := hB.lo; omega)).kept cP (fun q hq e => by have := (hF' q hq).1; have := hB.lp; omega)
  refine ⟨⟨0, [], [], ov', .slice none 0 0, vs', _, fun _ => False, .last h.run hgood hlast, cP.heap (Cat.heap_setCell_same e1 0 ov') hB.op, Cat.heap_setCell_same (cO.heap e2 (fun e => hB.op e.symm)) 0 _, ?_, o1, o2, o3, o4, SecsF.nil _ _, SsOk.nil _ _, rfl, rfl, fun _ _ e => e, ?_, by simp, fun _ => rfl, ?_⟩, RoundOk.of hall hz5 (fun q hq => ?_) (fun q _ hq => h.cells q hq)⟩
  · rw [cP.heap (cO.heap e3 (fun e => hB.oq e.symm)) (fun e => hB.pq e.symm), List.length_append]; simp
  · intro q hq
    rcases hq with hq | hq
    · have := hF' q hq; simp; omega
    · exact hq.elim
  · exact h.chg.trans' hall (fun q hq e => by
      rcases e with e | e | e | e | e
      · exact .inl e
      · exact .inr (.inl e)
      · exact .inr (.inr e)
      · have := hpv q e; omega
      · have := (hov q e).1; omega)
  · rcases hq with e | e | e | e | e
    · exact .inl e
    · exact .inr (.inl e)
    · exact .inr (.inr (.inl e))
    · exact .inr (.inr (.inr (hpv q e)))
    · exact .inr (.inr (.inr (hov q e).1))
end Go.Proofs.Ytjhkhdockiocgaa
