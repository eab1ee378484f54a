/- What rolled comes to; a stock whose parts are turned. -/
import Derived.Test.YtmnnahkaenikkaaStk4
namespace Go.Proofs.Ytmnnahkaenikkaa
open Go.RowKit Go.Cat
def St.setM (s : St) (t : Nat) (m : Int) : St := if t = 1 then { s with m1 := m } else { s with m2 := m }
def St.setA (s : St) (t : Nat) (l : List Ag) : St := if t = 1 then { s with mid := l } else { s with long := l }
def St.push (s : St) (t : Nat) (a : Ag) : St := s.setA t (s.agg t ++ [a])
/-- The aggregate that is laid for the window of a tick. -/
def St.win (s : St) (t : Nat) (x : Int) : Ag := (s.of t (wst t x) (wst t x + wid t)).getD Ag.zero
def rolledF : Nat → Nat → Int → St → Int → St × Int × Int
  | 0, _, _, s, made => (s, made, 0)
  | f + 1, t, to, s, made =>
    if to ≤ s.mk_ t then (s, made, 0) else
    match s.soon t with
    | none => (s.setM t to, made, 0)
    | some nx =>
      if to ≤ nx then (s.setM t to, made, 0)
      else if 256 ≤ (s.agg t).length then (s.setM t (if s.mk_ t < wst t nx then wst t nx else s.mk_ t), made, 6)
      else rolledF f t to ((s.push t (s.win t nx)).setM t (wst t nx + wid t)) (made + 1)
def rolledS (t : Nat) (to : Int) (s : St) : St × Int × Int := rolledF (to - s.mk_ t).toNat t to s 0
theorem ofP_tk (x : Int) (l : List Pt) : (ofP x l).tk = x := by
  unfold ofP
  suffices h : ∀ (l : List Pt) (a : Ag), (l.foldl (fun a p => agAdd a p.val) a).tk = a.tk by rw [h]
  intro l
  induction l with
  | nil => intro a; rfl
  | cons p r ih =>
    intro a
    rw [List.foldl_cons, ih]
    unfold agAdd
    split <;> rfl
theorem win_tk (s : St) (t : Nat) (x : Int) (hx : 0 ≤ x) : (s.win t x).tk = wst t x ∨ (s.win t x).tk = 0 := by
  unfold St.win St.of
  split
  · unfold ofW
    split
    · exact .inr rfl
    · exact .inl (by simp [ofP_tk])
  · unfold joinA
    split
    · exact .inl rfl
    · exact .inr rfl
theorem wst_mod (t : Nat) (x : Int) : wst t x % wid t = 0 := by
  have := wid_pos t
  unfold wst
  rw [Int.sub_emod, Int.emod_emod]
  simp
theorem wst_next {t : Nat} {x to : Int} (ht : to % wid t = 0) (h : x < to) : wst t x + wid t ≤ to := by
  have h1 := wid_pos t
  have e1 := Int.emod_add_mul_ediv x (wid t)
  have e2 := Int.emod_add_mul_ediv to (wid t)
  have h3 := Int.emod_nonneg x (show wid t ≠ 0 by omega)
  unfold wst
  have hq : x / wid t < to / wid t := by
    rcases Int.lt_or_le (x / wid t) (to / wid t) with h | h
    · exact h
    · have := Int.mul_le_mul_of_nonneg_left h (show 0 ≤ wid t by omega)
      omega
  have := Int.mul_le_mul_of_nonneg_left (show x / wid t + 1 ≤ to / wid t by omega) (show 0 ≤ wid t by omega)
  rw [Int.mul_add] at this
  omega
theorem AgOk.mono {t : Nat} {m m' : Int} {l : List Ag} (h : AgOk t m l) (hm : m ≤ m') : AgOk t m' l := fun a ha => by
  obtain ⟨h1, h2, h3⟩ := h a ha
  exact ⟨h1, by omega, h3⟩
theorem AgOk.push {t : Nat} {m m' : Int} {l : List Ag} (h : AgOk t m l) (hm : m ≤ m') {a : Ag} (h1 : 0 ≤ a.tk) (h2 : a.tk < m') (h3 : a.tk % wid t = 0) : AgOk t m' (l ++ [a]) := fun b hb => by
  rcases List.mem_append.1 hb with h' | h'
  · exact h.mono hm b h'
  · obtain rfl : b = a := by simpa using h'
    exact ⟨h1, h2, h3⟩
theorem Inv.mkOk {s : St} (h : Inv s) (t : Nat) (ht : t = 1 ∨ t = 2) : AgOk t (s.mk_ t) (s.agg t) ∧ (s.agg t).length ≤ 256 ∧ 0 ≤ s.mk_ t ∧ s.mk_ t ≤ 1099511627776 := by
  rcases ht with rfl | rfl
  · exact ⟨h.midOk, h.midFew, h.b1⟩
  · exact ⟨h.longOk, h.longFew, h.b2⟩
/-- A tier's aggregates and mark are others. -/
def St.tier (s : St) (t : Nat) (l : List Ag) (m : Int) : St := (s.setA t l).setM t m
theorem Inv.tier {s : St} (h : Inv s) (t : Nat) (ht : t = 1 ∨ t = 2) {l : List Ag} {m : Int} (h1 : AgOk t m l) (h2 : l.length ≤ 256) (h3 : 0 ≤ m ∧ m ≤ 1099511627776) : Inv (s.tier t l m) := by
  rcases ht with rfl | rfl
  · exact ⟨h.tks, h1, h.longOk, h2, h.longFew, h3, h.b2⟩
  · exact ⟨h.tks, h.midOk, h1, h.midFew, h2, h.b1, h3⟩
theorem setM_tier (s : St) (t : Nat) (m : Int) : s.setM t m = s.tier t (s.agg t) m := by
  unfold St.tier St.setA St.setM St.agg
  by_cases h : t = 1 <;> simp [h]
theorem soon_mem {s : St} {t : Nat} (hi : Inv s) {nx : Int} (h : s.soon t = some nx) : s.mk_ t ≤ nx ∧ 0 ≤ nx ∧ nx ≤ 1099511627776 := by
  unfold St.soon St.mk_ at *
  split at h
  · rename_i e
    rw [if_pos e]
    obtain ⟨p, hp, rfl⟩ := Option.map_eq_some_iff.1 h
    have h1 := hi.tks p (List.mem_of_find?_eq_some hp)
    have h2 := List.find?_some hp
    simp at h2
    omega
  · rename_i e
    rw [if_neg e]
    obtain ⟨p, hp, rfl⟩ := Option.map_eq_some_iff.1 h
    have h1 := hi.midOk p (List.mem_of_find?_eq_some hp)
    have h2 := List.find?_some hp
    have h3 := hi.b1
    simp at h2
    omega
/-- The first cell of a tier's slice, and its mark's. -/
theorem StAt.tier {w w' : World} {F : Nat → Prop} {R R1 : Nat} {vr vm vl : Value} {s : St} (h : StAt w F R R1 vr vm vl s) (t : Nat) (ht : t = 1 ∨ t = 2) {v' : Value} {l : List Ag} {m : Int}
    (c : Chg (fun k => k = R ∨ (if t = 1 then vm else vl).ownBlock = some k) w w') (hd : w'.heap[R]? = some (.cells (if t = 1 then stC R1 v' vl (s.tier t l m) else stC R1 vm v' (s.tier t l m)) 86 (0, 0)))
    (ho : OAgs w' v' l) (hv : ∀ k, v'.ownBlock = some k → (if t = 1 then vm else vl).ownBlock = some k ∨ w.heap.size ≤ k) (inv : Inv (s.tier t l m)) : StIs w' (ext F w w') R (s.tier t l m) := by
  have hsl := h.ser.lt
  have hml : ∀ k, vm.ownBlock = some k → k < w.heap.size := Owns.lt h.mid
  have hll : ∀ k, vl.ownBlock = some k → k < w.heap.size := Owns.lt h.long
  have hRl := h.lt
  rcases ht with rfl | rfl
  · simp only [if_true] at c hd hv
    have hk : ∀ k, k < w.heap.size → (k ≠ R ∧ vm.ownBlock ≠ some k) → ¬ (k = R ∨ vm.ownBlock = some k) := fun k _ h h' => by rcases h' with h' | h'; exact h.1 h'; exact h.2 h'
    refine ⟨R1, vr, v', vl, hd, h.ser.kept c (hk _ hsl.1 ⟨fun e => h.d1 e.symm, fun e => (h.dm _ e).2.1 rfl⟩) (fun k hk' => hk _ (hsl.2 k hk') ⟨h.dr k hk', fun e => (h.dm _ e).2.2.1 hk'⟩), ho,
      Owns.kept h.long c (fun k hk' => hk _ (hll k hk') ⟨(h.dl k hk').1, fun e => (h.dm _ e).2.2.2 hk'⟩), .inl h.fR, .inl h.fR1, fun k hk => .inl (h.fr k hk), fun k hk => ?_, fun k hk => .inl (h.fl k hk), h.d1, h.dr, fun k hk => ?_, h.dl, inv⟩
    · rcases hv k hk with h' | h'
      · exact .inl (h.fm k h')
      · exact .inr ⟨h', Owns.lt ho k hk⟩
    · rcases hv k hk with h' | h'
      · exact h.dm k h'
      · exact ⟨by omega, by omega, fun e => by have := hsl.2 k e; omega, fun e => by have := hll k e; omega⟩
  · simp only [show ¬ (2 : Nat) = 1 by omega, if_false] at c hd hv
    have hk : ∀ k, k < w.heap.size → (k ≠ R ∧ vl.ownBlock ≠ some k) → ¬ (k = R ∨ vl.ownBlock = some k) := fun k _ h h' => by rcases h' with h' | h'; exact h.1 h'; exact h.2 h'
    refine ⟨R1, vr, vm, v', hd, h.ser.kept c (hk _ hsl.1 ⟨fun e => h.d1 e.symm, fun e => (h.dl _ e).2.1 rfl⟩) (fun k hk' => hk _ (hsl.2 k hk') ⟨h.dr k hk', fun e => (h.dl _ e).2.2 hk'⟩),
      Owns.kept h.mid c (fun k hk' => hk _ (hml k hk') ⟨(h.dm k hk').1, fun e => (h.dm k hk').2.2.2 e⟩), ho, .inl h.fR, .inl h.fR1, fun k hk => .inl (h.fr k hk), fun k hk => .inl (h.fm k hk), fun k hk => ?_, h.d1, h.dr, fun k hk => ?_, fun k hk => ?_, inv⟩
    · rcases hv k hk with h' | h'
      · exact .inl (h.fl k h')
      · exact .inr ⟨h', Owns.lt ho k hk⟩
    · obtain ⟨h1, h2, h3, h4⟩ := h.dm k hk
      refine ⟨h1, h2, h3, fun e => ?_⟩
      rcases hv k e with h' | h'
      · exact h4 h'
      · have := hml k hk; omega
    · rcases hv k hk with h' | h'
      · exact h.dl k h'
      · exact ⟨by omega, by omega, fun e => by have := hsl.2 k e; omega⟩
/-- The points are others. -/
theorem StAt.pts {w w' : World} {F : Nat → Prop} {R R1 : Nat} {vr vm vl : Value} {s : St} (h : StAt w F R R1 vr vm vl s) {l : List Pt} (ho : SerOut w R1 vr l w') (hl : ∀ p ∈ l, 0 ≤ p.tk ∧ p.tk ≤ 1099511627776) : StIs w' (ext F w w') R { s with raw := l } ∧ Chg F w w' := by
  obtain ⟨v', hs, hv, c⟩ := ho
  have hsl := h.ser.lt
  have hml : ∀ k, vm.ownBlock = some k → k < w.heap.size := Owns.lt h.mid
  have hll : ∀ k, vl.ownBlock = some k → k < w.heap.size := Owns.lt h.long
  have hRl := h.lt
  refine ⟨⟨R1, v', vm, vl, ⟨c.heap h.hd (fun e => h.d1 e), hs, Owns.kept h.mid c (fun k hk e => (h.dm k hk).2.1 e), Owns.kept h.long c (fun k hk e => (h.dl k hk).2.1 e), .inl h.fR, .inl h.fR1, fun k hk => ?_, fun k hk => .inl (h.fm k hk), fun k hk => .inl (h.fl k hk), h.d1, fun k hk => ?_, fun k hk => ?_, fun k hk => ?_, { h.inv with tks := hl }⟩⟩, c.mono (fun k _ e => by rw [e]; exact h.fR1)⟩
  · rcases hv k hk with h' | h'
    · exact .inl (h.fr k h')
    · exact .inr ⟨h', hs.lt.2 k hk⟩
  · rcases hv k hk with h' | h'
    · exact h.dr k h'
    · omega
  · obtain ⟨h1, h2, h3, h4⟩ := h.dm k hk
    refine ⟨h1, h2, fun e => ?_, h4⟩
    rcases hv k e with h' | h'
    · exact h3 h'
    · have := hml k hk; omega
  · obtain ⟨h1, h2, h3⟩ := h.dl k hk
    refine ⟨h1, h2, fun e => ?_⟩
    rcases hv k e with h' | h'
    · exact h3 h'
    · have := hll k hk; omega
end Go.Proofs.Ytmnnahkaenikkaa
