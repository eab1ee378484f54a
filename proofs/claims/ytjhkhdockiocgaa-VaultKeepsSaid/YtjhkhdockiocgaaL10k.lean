/- JournalKeeps: the walk. -/
import Derived.Test.YtjhkhdockiocgaaL10w
import Derived.Test.YtjhkhdockiocgaaRowAct
namespace Go.Cat
open Go.RowKit
theorem wpList_appG {P : Program} {w : World} {ops : Array Oper} {rest : List Oper} {o : Oper} {a : Act} {Q : Exit → Act → World → Prop} (s x : Operand) (t : TypeId)
    (ho : o.op = .call { callee := .builtin .append, args := #[s, x], argTypes := #[t, t] }) (hgd : Region.wanted o (yielded ops a.tmps) = true)
    (e : TypeId) (z : Value) (size bytes : Nat) (ht : P.underlying t = some (.slice e)) (hi : (P.info? e).map (fun i => (i.zero, i.size, i.bytes)) = some (some z, size, bytes)) (hzs : z.cells.size = size)
    (v : Value) (n : Nat) (xs : List Value) (hs : a.eval s = v) (hown : Owns w size v n xs)
    (y : Value) (m : Nat) (news : List Value) (hy : a.eval x = y) (hx : Reads w size y m news) (h1 : ∀ u ∈ news, u.oneCell' = true)
    (h63 : n + m ≤ maxLen) (hbytes : (n + m) * bytes ≤ 140737488355328)
    (h : ∀ v' w', Owns w' size v' (n + m) (xs ++ news) → Chg (fun k => v.ownBlock = some k) w w' → (∀ k, v'.ownBlock = some k → v.ownBlock = some k ∨ k = w.heap.size) → wpList P ops Q rest (a.put o.dst v') w') : wpList P ops Q (o :: rest) a w := by
  obtain ⟨i, hi, hz0, hz1, hz2⟩ := info_parts hi
  obtain ⟨v', w', hr, h2, h3, h4, h5⟩ := run_app (P := P) w t o.type e i z size bytes ht hi hz0 hz1 hz2 hzs v n xs hown y m news hx h1 h63 hbytes
  unfold wpList
  rw [if_pos hgd]
  left
  unfold Oper.wp execOp
  simp only [ho, resolve, invoke, builtin, Sem.run_bind, Sem.run_pure, Result.andThen_ok, List.map_toArray, List.map_cons, List.map_nil, hs, hy, hr]
  exact h v' w' h2 h3 h4
end Go.Cat
namespace Go.Proofs.Ytjhkhdockiocgaa
open Go.RowKit Go.Cat

theorem act_cell {wr : World} {g o : Nat} {L : List Act10} (h : ∀ (j : Nat) (u : Value), (L.flatMap Act10.cells)[j]? = some u → wr.cell? ⟨g, o + j, none⟩ = some u) (k : Nat) (a : Act10) (ha : L[k]? = some a) (i : Nat) (hi : i < 5) (u : Value) (hu : a.cells[i]? = some u) : wr.cell? ⟨g, o + (k * 5 + i), none⟩ = some u :=
  h _ u (by rw [rows_at L (s := 5) (f := Act10.cells) (fun _ _ => rfl) k i a ha hi]; exact hu)
theorem acts_form {w : World} {la : Option Addr} {n c : Nat} {L : List Act10} (h : Reads w 5 (.slice la n c) L.length (L.flatMap Act10.cells)) (k : Nat) (a : Act10) (ha : L[k]? = some a) : ∃ g o, la = some ⟨g, o, none⟩ ∧ ∀ (i : Nat) (u : Value), a.cells[i]? = some u → w.cell? ⟨g, o + (k * 5 + i), none⟩ = some u := by
  have hk := (List.getElem?_eq_some_iff.1 ha).1
  rcases h.2 with ⟨_, h0⟩ | ⟨g, o, c', hv, _, _, _, hc⟩
  · omega
  · simp only [Value.slice.injEq] at hv
    exact ⟨g, o, hv.1, fun i u hu => act_cell hc k a ha i (by have := (List.getElem?_eq_some_iff.1 hu).1; simpa using this) u hu⟩
/-- The journal's block, and the two rows'. -/
def S3 (J : Nat) (v u : Value) (q : Nat) : Prop := q = J ∨ v.ownBlock = some q ∨ u.ownBlock = some q
/-- What the loop holds. -/
structure KI (w1 wr : World) (D J t : Nat) (done behind : List (List UInt8)) (dv bv : Value) : Prop where
  ju : JU w1 wr D 60 5 50 t (fun o => ¬ sound o) done behind (S3 J dv bv)
  ji : JIs wr J D 5 50 t (total done + total behind)
  kd : KR w1 wr dv done
  kb : KR w1 wr bv behind
  apJ : ∀ q, dv.ownBlock = some q ∨ bv.ownBlock = some q → q ≠ J
  apV : ∀ q, dv.ownBlock = some q → ¬ bv.ownBlock = some q
theorem KI.same {w1 wr w' : World} {D J t : Nat} {done behind : List (List UInt8)} {dv bv : Value} (h : KI w1 wr D J t done behind dv bv) (c : Chg (fun _ => False) wr w') : KI w1 w' D J t done behind dv bv :=
  ⟨h.ju.same c, h.ji.kept c (fun h => h), h.kd.kept c (fun _ _ h => h.elim), h.kb.kept c (fun _ _ h => h.elim), h.apJ, h.apV⟩
theorem KR.cat {w0 w3 : World} {v' : Value} {ls ms : List (List UInt8)} {vs us : List Value} (hv : vs.length = ls.length) (h2 : ∀ (i : Nat) u l, vs[i]? = some u → ls[i]? = some l → RBz w0 u l) (k2 : ∀ (i : Nat) u l, us[i]? = some u → ms[i]? = some l → RBz w0 u l)
    (own3 : Owns w3 1 v' (ls.length + ms.length) (vs ++ us)) (fr : ∀ q, v'.ownBlock = some q → w0.heap.size ≤ q) : KR w0 w3 v' (ls ++ ms) := by
  refine ⟨vs ++ us, by rw [List.length_append]; exact own3, fun i x m hx hm => ?_, fr⟩
  rcases Nat.lt_or_ge i vs.length with hi | hi
  · rw [List.getElem?_append_left hi] at hx
    rw [List.getElem?_append_left (by omega)] at hm
    exact h2 i x m hx hm
  · rw [List.getElem?_append_right hi] at hx
    rw [List.getElem?_append_right (by omega), ← hv] at hm
    exact k2 _ x m hx hm
theorem kr_one {w0 : World} {ms : List (List UInt8)} {us : List Value} (hl : us.length = ms.length) (k2 : ∀ (i : Nat) u l, us[i]? = some u → ms[i]? = some l → RBz w0 u l) : ∀ u ∈ us, u.oneCell' = true := fun u hu => by
  obtain ⟨i, hi⟩ := List.getElem?_of_mem hu
  obtain ⟨l, hl'⟩ := getElem?_some_lt (show i < ms.length by rw [← hl]; exact (List.getElem?_eq_some_iff.1 hi).1)
  obtain ⟨a, c, rfl⟩ := (k2 i u l hi hl').form
  rfl
/-- Nothing was written: the turn that is told is 0. -/
theorem ju_read0 {w0 w : World} {D N lo n t : Nat} {Old : List UInt8 → Prop} {S : Nat → Prop} (h : JU w0 w D N lo n t Old [] [] S) (ht : t < 4294967296) (h0 : t ≠ 0) (hpos : 1 ≤ n) (hO : ∀ o, Old o → ¬ sound o) :
    Calls Try.prog 30 #[.pointer (some ⟨D, 0, none⟩), .int .i64 lo, .int .i64 n] w fun e w' => ∃ (v' : Value) (F : Nat → Prop), e = .returned (.tuple #[v', .int .u32 0, .int .i64 0]) ∧ OutsF w' F v' [] ∧ JU w0 w' D N lo n t Old [] [] S ∧ Chg (fun _ => False) w w' := by
  obtain ⟨d, h3, h4, h5, h6, h7⟩ := h
  have hr := h4.read (out := []) ht h0 hpos (.inr hO)
  have hw : d.waits = [] := by rw [h4.waits]; rfl
  have ht0 : turnB ((readOf d.l d.waits lo n).headD []) = 0 := by
    obtain ⟨o, h8, _, h9⟩ := h4.old 0 (by simp [total]) (by omega)
    rw [hw, headD_at (x := o) (by rw [readOf_at, if_pos (by omega)]; exact h8)]
    exact if_neg (hO o h9)
  refine (dj_read w0 w D lo n d S h3 h5 hpos h4.len (by have := ju_wl h4; omega) _ rfl hr.1 hr.2.1).mono ?_
  rintro e w' ⟨v', out, F, rfl, g1, g2, g3, g4, c⟩
  obtain ⟨e1, _⟩ := (h4.read (out := out) ht h0 hpos (.inr hO)).2.2 g3
  rw [show ([] : List (List UInt8)) ++ [] = [] from rfl] at e1
  subst e1
  rw [ht0]
  exact ⟨v', F, rfl, g1, ⟨d, g4, h4, h5, h6, h7⟩, c⟩
theorem slice_full43 (w : World) (a : Option Addr) (n c : Nat) (h : n ≤ c) : (Instr.sliceAt 43 (.slice a n c) none (some (.int .i64 n)) (some (.int .i64 n))).run Try.prog w = .ok (.slice a n n) w := by
  have h4 : (n : Int) ≤ c := by omega
  simp [go_sem, Instr.sliceAt, Instr.slice, Instr.sliceBounds, h4]
end Go.Proofs.Ytjhkhdockiocgaa
