/- Sectors read as records; rows of byte slices and of sectors whose memory is told (a footprint); an append in the body of a range over a function. No program's function is named but by the types of bytes. -/
import Derived.Test.YtjhkhdockiocgaaJoin
import Derived.Test.YtjhkhdockiocgaaChunk
import Derived.Test.YtjhkhdockiocgaaPackAny
import Derived.Test.YtjhkhdockiocgaaRow
namespace Go.Cat
open Go.RowKit

/-- Only what is no cells may turn. -/
def NoCells (w : World) (S : Nat → Prop) : Prop := ∀ r, S r → ∃ o : Obj, w.heap[r]? = some o ∧ o.isCells = false
theorem NoCells.not {w : World} {S : Nat → Prop} (h : NoCells w S) {p : Addr} {v : Value} (hc : w.cell? p = some v) : ¬ S p.block := fun hs => by
  obtain ⟨o, h1, h2⟩ := h _ hs
  obtain ⟨o', h3, h4⟩ := cells_of_cell hc
  rw [h1] at h3; cases h3; rw [h2] at h4; cases h4
theorem NoCells.notB {w : World} {S : Nat → Prop} (h : NoCells w S) {b : Nat} {c : Array Value} {T : TypeId} {f : Nat × Nat} (hc : w.heap[b]? = some (.cells c T f)) : ¬ S b := fun hs => by
  obtain ⟨o, h1, h2⟩ := h _ hs
  rw [hc] at h1; cases h1; simp [Obj.isCells] at h2
theorem Reads.other {w w' : World} {size : Nat} {v : Value} {n : Nat} {xs : List Value} (h : Reads w size v n xs) {S : Nat → Prop} (c : Chg S w w') (hS : NoCells w S) : Reads w' size v n xs := by
  refine ⟨h.1, ?_⟩
  rcases h.2 with hn | ⟨g, o, cap, rfl, h1, h2, h3, h4⟩
  · exact .inl hn
  · exact .inr ⟨g, o, cap, rfl, h1, h2, Nat.lt_of_lt_of_le h3 c.size, fun j u hj => c.cell (h4 j u hj) (hS.not (h4 j u hj))⟩
theorem Owns.other {w w' : World} {size : Nat} {v : Value} {n : Nat} {xs : List Value} (h : Owns w size v n xs) {S : Nat → Prop} (c : Chg S w w') (hS : NoCells w S) : Owns w' size v n xs := by
  refine ⟨h.1, ?_⟩
  rcases h.2 with hn | ⟨g, o, cap, rfl, h1, h2, h3, h4, h5⟩
  · exact .inl hn
  · refine .inr ⟨g, o, cap, rfl, h1, h2, Nat.lt_of_lt_of_le h3 c.size, fun j u hj => c.cell (h4 j u hj) (hS.not (h4 j u hj)), fun i hi => ?_⟩
    obtain ⟨k1, k2⟩ := h5 i hi
    obtain ⟨u, hu⟩ := Option.isSome_iff_exists.1 k1
    have hb := c.block g h3 (hS.not hu)
    rw [World.cell?_of_block (w := w) (w' := w') hb, World.frozen?_of_block (w := w) (w' := w') hb]
    exact ⟨k1, k2⟩
theorem RB.other {w w' : World} {v : Value} {l : List UInt8} (h : RB w v l) {S : Nat → Prop} (c : Chg S w w') (hS : NoCells w S) : RB w' v l := Reads.other h c hS

/-- A row of byte slices of the call's own; all its memory is of F. -/
def OutsF (w : World) (F : Nat → Prop) (v : Value) (ls : List (List UInt8)) : Prop :=
  ∃ vs, Owns w 1 v ls.length vs ∧ (∀ (i : Nat) u l, vs[i]? = some u → ls[i]? = some l → RB w u l) ∧ (∀ q, v.ownBlock = some q → F q) ∧ ∀ u ∈ vs, ∀ q, u.ownBlock = some q → F q ∧ v.ownBlock ≠ some q
theorem OutsF.kept {w w' : World} {F : Nat → Prop} {v : Value} {ls : List (List UInt8)} (h : OutsF w F v ls) {S : Nat → Prop} (c : Chg S w w') (hs : ∀ q, F q → ¬ S q) : OutsF w' F v ls := by
  obtain ⟨vs, h1, h2, h3, h4⟩ := h
  exact ⟨vs, h1.kept c (fun q hq => hs q (h3 q hq)), fun i u l hu hl => (h2 i u l hu hl).kept c (fun q hq => hs q (h4 u (List.mem_of_getElem? hu) q hq).1), h3, h4⟩
theorem OutsF.other {w w' : World} {F : Nat → Prop} {v : Value} {ls : List (List UInt8)} (h : OutsF w F v ls) {S : Nat → Prop} (c : Chg S w w') (hS : NoCells w S) : OutsF w' F v ls := by
  obtain ⟨vs, h1, h2, h3, h4⟩ := h
  exact ⟨vs, h1.other c hS, fun i u l hu hl => (h2 i u l hu hl).other c hS, h3, h4⟩
theorem OutsF.mono {w : World} {F G : Nat → Prop} {v : Value} {ls : List (List UInt8)} (h : OutsF w F v ls) (hf : ∀ q, F q → G q) : OutsF w G v ls := by
  obtain ⟨vs, h1, h2, h3, h4⟩ := h
  exact ⟨vs, h1, h2, fun q hq => hf q (h3 q hq), fun u hu q hq => ⟨hf q (h4 u hu q hq).1, (h4 u hu q hq).2⟩⟩
theorem OutsF.nil (w : World) (F : Nat → Prop) : OutsF w F (.slice none 0 0) [] := ⟨[], Owns.nil w 1, by simp, by simp [Value.ownBlock], by simp⟩
theorem OutsF.form {w : World} {F : Nat → Prop} {v : Value} {ls : List (List UInt8)} (h : OutsF w F v ls) : ∃ a c, v = .slice a ls.length c := by
  obtain ⟨vs, h1, _⟩ := h
  exact h1.form
theorem OutsF.rbs {w : World} {F : Nat → Prop} {v : Value} {ls : List (List UInt8)} (h : OutsF w F v ls) : RBs w v ls := by
  obtain ⟨vs, h1, h2, _⟩ := h
  exact ⟨vs, h1.reads, fun i u l hu hl => .inl (h2 i u l hu hl)⟩
/-- A slice put behind it. -/
theorem OutsF.push {w2 w3 : World} {F : Nat → Prop} {v v' u : Value} {ls : List (List UInt8)} {l : List UInt8} {vs : List Value} {lo : Nat} (h1 : Owns w2 1 v ls.length vs) (h2 : ∀ (i : Nat) u l, vs[i]? = some u → ls[i]? = some l → RB w2 u l) (h3 : ∀ q, v.ownBlock = some q → F q) (h4 : ∀ u ∈ vs, ∀ q, u.ownBlock = some q → F q ∧ v.ownBlock ≠ some q)
    (hu : RB w2 u l) (hF : ∀ q, F q → q < lo) (hlo : lo ≤ w2.heap.size) (hul : ∀ q, u.ownBlock = some q → lo ≤ q) (own3 : Owns w3 1 v' (ls.length + 1) (vs ++ [u])) (c3 : Chg (fun k => v.ownBlock = some k) w2 w3) (in3 : ∀ k, v'.ownBlock = some k → v.ownBlock = some k ∨ w2.heap.size ≤ k) :
    OutsF w3 (fun q => F q ∨ (lo ≤ q ∧ q < w3.heap.size)) v' (ls ++ [l]) := by
  have hvl : vs.length = ls.length := by have := h1.1; omega
  have hsz := c3.size
  have hv' : ∀ q, v'.ownBlock = some q → F q ∨ (lo ≤ q ∧ q < w3.heap.size) := fun q hq => by
    have := own3.lt q hq
    rcases in3 q hq with h | h
    · exact .inl (h3 q h)
    · exact .inr ⟨by omega, this⟩
  refine ⟨vs ++ [u], by rw [List.length_append]; exact own3, fun i x m hx hm => ?_, hv', fun x hx q hq => ?_⟩
  · rcases Nat.lt_or_ge i vs.length with hi | hi
    · rw [List.getElem?_append_left hi] at hx
      rw [List.getElem?_append_left (by omega)] at hm
      exact (h2 i x m hx hm).kept c3 (fun q hq hv => (h4 x (List.mem_of_getElem? hx) q hq).2 hv)
    · rw [List.getElem?_append_right hi] at hx
      rw [List.getElem?_append_right (by omega)] at hm
      have e1 : i - vs.length = 0 := by have := (List.getElem?_eq_some_iff.1 hx).1; simp at this; omega
      have e2 : i - ls.length = 0 := by omega
      rw [e1] at hx; rw [e2] at hm
      simp at hx hm
      subst hx; subst hm
      exact hu.kept c3 (fun q hq hv => by have := hul q hq; have := hF q (h3 q hv); omega)
  · rcases List.mem_append.1 hx with hx | hx
    · obtain ⟨g1, g2⟩ := h4 x hx q hq
      refine ⟨.inl g1, fun hv => ?_⟩
      rcases in3 q hv with h | h
      · exact g2 h
      · have := hF q g1; omega
    · obtain rfl : x = u := by simpa using hx
      have h5 := hul q hq
      have h6 := hu.lt' q hq
      refine ⟨.inr ⟨h5, by omega⟩, fun hv => ?_⟩
      rcases in3 q hv with h | h
      · have := hF q (h3 q h); omega
      · omega

theorem wpListIn_app {F : Fence} {k : Nat} {P : Program} {w : World} {ops : Array Oper} {rest : List Oper} {o : Oper} {a : Act} {Q : Exit → Act → World → Prop} (hgd : o.guard = none) (s x : Operand) (t : TypeId)
    (ho : o.op = .call { callee := .builtin .append, args := #[s, x], argTypes := #[t, t] })
    (e : TypeId) (i : TypeInfo) (z : Value) (size bytes : Nat) (ht : P.underlying t = some (.slice e)) (hi : P.info? e = some i) (hz : i.zero = some z)
    (hsize : i.size = size) (hby : i.bytes = bytes) (hzs : z.cells.size = size)
    (v : Value) (n : Nat) (xs : List Value) (hs : a.eval s = v) (hown : Owns w size v n xs)
    (y : Value) (m : Nat) (news : List Value) (hy : a.eval x = y) (hx : Reads w size y m news) (h1 : ∀ u ∈ news, u.oneCell' = true)
    (h63 : n + m ≤ maxLen) (hbytes : (n + m) * bytes ≤ 140737488355328)
    (h : ∀ v' w', Owns w' size v' (n + m) (xs ++ news) → Chg (fun k => v.ownBlock = some k) w w' → (∀ k, v'.ownBlock = some k → v.ownBlock = some k ∨ k = w.heap.size) → (v' = .slice none 0 0 ↔ v = .slice none 0 0 ∧ m = 0) → wpListIn F k P ops Q rest (a.put o.dst v') w') : wpListIn F k P ops Q (o :: rest) a w := by
  refine wpListIn_plain hgd fun K hK => ?_
  obtain ⟨v', w', hr, h2, h3, h4, h5⟩ := run_app (P := P) w t o.type e i z size bytes ht hi hz hsize hby hzs v n xs hown y m news hx h1 h63 hbytes
  unfold Oper.wpIn
  refine ⟨?_, ?_⟩
  · simp [Oper.about, ho, resolve, Target.leads, Sem.run_pure]
  · rw [Oper.semAt_plain F _ _ (by rw [ho]; intro c hc'; cases hc')]
    simp [execOp, ho, resolve, invoke, builtin, hs, hy, hr, Result.andThen]
    exact hK _ _ (h v' w' h2 h3 h4 h5)
theorem wpListIn_app_one {F : Fence} {k : Nat} {P : Program} {w : World} {ops : Array Oper} {rest : List Oper} {o : Oper} {a : Act} {Q : Exit → Act → World → Prop} (hgd : o.guard = none) (s x : Operand) (t : TypeId)
    (ho : o.op = .call { callee := .builtin .append, args := #[s, x], argTypes := #[t, t] })
    (e : TypeId) (z : Value) (size bytes : Nat) (ht : P.underlying t = some (.slice e)) (hi : (P.info? e).map (fun i => (i.zero, i.size, i.bytes)) = some (some z, size, bytes)) (hzs : z.cells.size = size)
    (v : Value) (n : Nat) (xs : List Value) (cs : List Value) (T : TypeId) (hs : a.eval s = v) (hy : a.eval x = .slice (some ⟨w.heap.size, 0, none⟩) 1 1) (hown : Owns w size v n xs) (hcs : cs.length = size) (h1 : ∀ u ∈ cs, u.oneCell' = true)
    (h63 : n + 1 ≤ maxLen) (hbytes : (n + 1) * bytes ≤ 140737488355328)
    (h : ∀ v' w', Owns w' size v' (n + 1) (xs ++ cs) → Chg (fun k => v.ownBlock = some k) w w' → (∀ k, v'.ownBlock = some k → v.ownBlock = some k ∨ w.heap.size ≤ k) → v' ≠ .slice none 0 0 → wpListIn F k P ops Q rest (a.put o.dst v') w') :
    wpListIn F k P ops Q (o :: rest) a (w.alloc (.cells cs.toArray T)) := by
  subst hcs
  obtain ⟨i, hi, hz0, hz1, hz2⟩ := info_parts hi
  refine wpListIn_app hgd s x t ho e i z _ bytes ht hi hz0 hz1 hz2 hzs v n xs hs (hown.alloc _) _ 1 cs hy (Reads.one w cs T) h1 h63 hbytes fun v' w' g1 g2 g3 g4 => ?_
  exact h v' w' g1 (((Chg.refl _ w).alloc _).trans' g2 (fun _ _ hk => hk)) (fun k hk => by rcases g3 k hk with g | g <;> simp_all) (fun hn => by simpa using g4.1 hn)
theorem keepsOthers_chg {S : Nat → Prop} {w w' : World} (c : Chg S w w') (hS : ∀ q, q < w.heap.size → S q → ∃ o : Obj, w.heap[q]? = some o ∧ o.isCells = true) : KeepsOthers w w' :=
  ⟨c.size, fun k o hk ho => by
    have hl := (Array.getElem?_eq_some_iff.1 hk).1
    rw [c.block k hl (fun hs => by obtain ⟨o', h1, h2⟩ := hS k hl hs; rw [hk] at h1; cases h1; rw [ho] at h2; cases h2)]
    exact hk⟩
end Go.Cat
namespace Go.Proofs.Ytjhkhdockiocgaa
open Go.RowKit Go.Cat

/-- Sectors in a row of the call's own; all its memory is of G. -/
def SecsF (w : World) (G : Nat → Prop) (v : Value) (ss : List Sec) : Prop :=
  Owns w 4 v ss.length (flat ss) ∧ (∀ q, v.ownBlock = some q → G q) ∧ ∀ s ∈ ss, RB w s.dv s.data ∧ ∀ q, s.dv.ownBlock = some q → G q ∧ v.ownBlock ≠ some q
theorem SecsF.kept {w w' : World} {G : Nat → Prop} {v : Value} {ss : List Sec} (h : SecsF w G v ss) {S : Nat → Prop} (c : Chg S w w') (hs : ∀ q, G q → ¬ S q) : SecsF w' G v ss :=
  ⟨h.1.kept c (fun q hq => hs q (h.2.1 q hq)), h.2.1, fun s hm => ⟨(h.2.2 s hm).1.kept c (fun q hq => hs q ((h.2.2 s hm).2 q hq).1), (h.2.2 s hm).2⟩⟩
theorem SecsF.other {w w' : World} {G : Nat → Prop} {v : Value} {ss : List Sec} (h : SecsF w G v ss) {S : Nat → Prop} (c : Chg S w w') (hS : NoCells w S) : SecsF w' G v ss :=
  ⟨h.1.other c hS, h.2.1, fun s hm => ⟨(h.2.2 s hm).1.other c hS, (h.2.2 s hm).2⟩⟩
theorem SecsF.nil (w : World) (G : Nat → Prop) : SecsF w G (.slice none 0 0) [] := ⟨Owns.nil w 4, by simp [Value.ownBlock], by simp⟩
theorem SecsF.push {w2 w3 : World} {G : Nat → Prop} {v v' : Value} {ss : List Sec} {s : Sec} {lo : Nat} (h : SecsF w2 G v ss) (hu : RB w2 s.dv s.data) (hG : ∀ q, G q → q < lo) (hlo : lo ≤ w2.heap.size) (hul : ∀ q, s.dv.ownBlock = some q → lo ≤ q)
    (own3 : Owns w3 4 v' (ss.length + 1) (flat ss ++ s.cells)) (c3 : Chg (fun k => v.ownBlock = some k) w2 w3) (in3 : ∀ k, v'.ownBlock = some k → v.ownBlock = some k ∨ w2.heap.size ≤ k) :
    SecsF w3 (fun q => G q ∨ (lo ≤ q ∧ q < w3.heap.size)) v' (ss ++ [s]) := by
  obtain ⟨h1, h3, h4⟩ := h
  have hsz := c3.size
  refine ⟨by rw [flat_snoc, List.length_append]; exact own3, fun q hq => ?_, fun x hx => ?_⟩
  · have := own3.lt q hq
    rcases in3 q hq with h | h
    · exact .inl (h3 q h)
    · exact .inr ⟨by omega, this⟩
  · rcases List.mem_append.1 hx with hx | hx
    · obtain ⟨g1, g2⟩ := h4 x hx
      refine ⟨g1.kept c3 (fun q hq hv => (g2 q hq).2 hv), fun q hq => ⟨.inl (g2 q hq).1, fun hv => ?_⟩⟩
      rcases in3 q hv with h | h
      · exact (g2 q hq).2 h
      · have := hG q (g2 q hq).1; omega
    · obtain rfl : x = s := by simpa using hx
      refine ⟨hu.kept c3 (fun q hq hv => by have := hul q hq; have := hG q (h3 q hv); omega), fun q hq => ?_⟩
      have h5 := hul q hq
      have h6 := hu.lt' q hq
      refine ⟨.inr ⟨h5, by omega⟩, fun hv => ?_⟩
      rcases in3 q hv with h | h
      · have := hG q (h3 q h); omega
      · omega

/-- A sector that tells something. -/
def sound (x : List UInt8) : Prop := (¬ ∀ b ∈ x, b = 0) ∧ stampsAlike x ∧ cleanRest x
def placeB (x : List UInt8) : Nat := ofBe ((x.drop 4).take 4)
def lastB (x : List UInt8) : Bool := decide (128 ≤ ofBe ((x.drop 8).take 1))
def bodyB (x : List UInt8) : List UInt8 := ((x.drop 9).take 47).take (ofBe ((x.drop 8).take 1) % 128)
/-- A sector of turn t, at place p. -/
def goodAt (t p : Nat) (x : List UInt8) : Prop := sound x ∧ ofBe (x.take 4) = t ∧ placeB x = p
/-- 64 bytes that are no sector of another form. -/
def known (x : List UInt8) : Prop := x.length = 64 ∧ ((∀ b ∈ x, b = 0) ∨ ((¬ ∀ b ∈ x, b = 0) ∧ ¬ stampsAlike x) ∨ sound x)
/-- Sectors xs are gone through: c of them open, with the bytes acc, the records out. -/
inductive RunTo (t : Nat) : List (List UInt8) → Nat → List UInt8 → List (List UInt8) → Prop
  | nil : RunTo t [] 0 [] []
  | more {xs c acc out x} : RunTo t xs c acc out → goodAt t xs.length x → lastB x = false → RunTo t (xs ++ [x]) (c + 1) (acc ++ bodyB x) out
  | last {xs c acc out x} : RunTo t xs c acc out → goodAt t xs.length x → lastB x = true → RunTo t (xs ++ [x]) 0 [] (out ++ [acc ++ bodyB x])
/-- The records that sectors of turn t bear. -/
def Recs (t : Nat) (X out : List (List UInt8)) : Prop :=
  (∃ c acc, RunTo t X c acc out) ∨ ∃ (k : Nat) (x : List UInt8) (c : Nat) (acc : List UInt8), X[k]? = some x ∧ RunTo t (X.take k) c acc out ∧ ¬ goodAt t k x
theorem RunTo.le {t : Nat} {xs : List (List UInt8)} {c : Nat} {acc : List UInt8} {out : List (List UInt8)} (h : RunTo t xs c acc out) : c ≤ xs.length ∧ out.length ≤ xs.length := by
  induction h with
  | nil => simp
  | more _ _ _ ih => simp; omega
  | last _ _ _ ih => simp; omega
/-- The open sectors. -/
def SsOk (t p : Nat) (ss : List Sec) : Prop := ss.length ≤ p ∧ ∀ (i : Nat) s, ss[i]? = some s → s.turn = t ∧ s.place = p - ss.length + i ∧ s.last = false ∧ s.data.length ≤ 47
theorem SsOk.nil (t p : Nat) : SsOk t p [] := ⟨Nat.zero_le _, by simp⟩
theorem SsOk.push {t p : Nat} {ss : List Sec} {s : Sec} (h : SsOk t p ss) (h1 : s.turn = t) (h2 : s.place = p) (h3 : s.last = false) (h4 : s.data.length ≤ 47) : SsOk t (p + 1) (ss ++ [s]) := by
  refine ⟨by have := h.1; simp; omega, fun i x hx => ?_⟩
  have hl := h.1
  rw [List.length_append, List.length_singleton]
  rcases Nat.lt_or_ge i ss.length with hi | hi
  · rw [List.getElem?_append_left hi] at hx
    obtain ⟨g1, g2, g3, g4⟩ := h.2 i x hx
    exact ⟨g1, by rw [g2]; omega, g3, g4⟩
  · have hil := (List.getElem?_eq_some_iff.1 hx).1
    simp at hil
    obtain rfl : i = ss.length := by omega
    rw [List.getElem?_append_right (Nat.le_refl _)] at hx
    simp at hx
    subst hx
    exact ⟨h1, by omega, h3, h4⟩
theorem SsOk.joins {t p : Nat} {ss : List Sec} {s : Sec} (h : SsOk t p ss) (h1 : s.turn = t) (h2 : s.place = p) (h3 : s.last = true) (hp : p < 4294967295) : Joins (ss ++ [s]) := by
  have hl := h.1
  have hat : ∀ (i : Nat) x, (ss ++ [s])[i]? = some x → x.turn = t ∧ x.place = p - ss.length + i ∧ (i < ss.length → x.last = false) := fun i x hx => by
    rcases Nat.lt_or_ge i ss.length with hi | hi
    · rw [List.getElem?_append_left hi] at hx
      obtain ⟨g1, g2, g3, g4⟩ := h.2 i x hx
      exact ⟨g1, g2, fun _ => g3⟩
    · have hil := (List.getElem?_eq_some_iff.1 hx).1
      simp at hil
      obtain rfl : i = ss.length := by omega
      rw [List.getElem?_append_right (Nat.le_refl _)] at hx
      simp at hx
      subst hx
      exact ⟨h1, by omega, fun hlt => absurd hlt (Nat.lt_irrefl _)⟩
  refine ⟨by simp, fun i hi => ?_, s, by simp, h3⟩
  obtain ⟨x, hx⟩ : ∃ x, (ss ++ [s])[i]? = some x := ⟨_, List.getElem?_eq_getElem hi⟩
  obtain ⟨x0, hx0⟩ : ∃ x, (ss ++ [s])[0]? = some x := ⟨_, List.getElem?_eq_getElem (by simp)⟩
  have g := hat i x hx
  have g0 := hat 0 x0 hx0
  refine ⟨x, x0, hx, hx0, by rw [g.1, g0.1], fun hpos => ?_⟩
  obtain ⟨y, hy⟩ : ∃ y, (ss ++ [s])[i - 1]? = some y := ⟨_, List.getElem?_eq_getElem (by omega)⟩
  have gy := hat (i - 1) y hy
  simp at hi
  exact ⟨y, hy, by rw [g.2.1, gy.2.1]; omega, by rw [g.2.1]; omega, gy.2.2 (by omega)⟩
end Go.Proofs.Ytjhkhdockiocgaa
