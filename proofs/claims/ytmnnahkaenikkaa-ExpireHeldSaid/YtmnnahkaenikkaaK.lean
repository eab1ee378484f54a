/- Plain words on worlds: what was touched, rows of cells that are owned or read, byte rows; an append onto an owned row. No program is named. -/
import Derived.WalkKit
import Derived.Lib.Hide
import Derived.Deep.Draws
import Derived.Lib.ConvBytes
namespace Go.Cat
open Go.RowKit

/-- Of the blocks that were there only those in S may have turned. -/
structure Chg (S : Nat → Prop) (w w' : World) : Prop where
  os : w'.os = w.os
  tape : w'.tape = w.tape
  output : w'.output = w.output
  size : w.heap.size ≤ w'.heap.size
  block : ∀ k, k < w.heap.size → ¬ S k → w'.heap[k]? = w.heap[k]?

theorem Chg.refl (S : Nat → Prop) (w : World) : Chg S w w := ⟨rfl, rfl, rfl, Nat.le_refl _, fun _ _ _ => rfl⟩
theorem Chg.trans {S : Nat → Prop} {a b c : World} (h : Chg S a b) (k : Chg S b c) : Chg S a c :=
  ⟨k.os.trans h.os, k.tape.trans h.tape, k.output.trans h.output, Nat.le_trans h.size k.size,
    fun i hi hs => (k.block i (Nat.lt_of_lt_of_le hi h.size) hs).trans (h.block i hi hs)⟩
theorem Chg.mono {S T : Nat → Prop} {w w' : World} (h : Chg S w w') (hs : ∀ k, k < w.heap.size → S k → T k) : Chg T w w' :=
  ⟨h.os, h.tape, h.output, h.size, fun k hk ht => h.block k hk (fun s => ht (hs k hk s))⟩
/-- Two steps; the second one may touch besides what the first one made. -/
theorem Chg.trans' {S T : Nat → Prop} {a b c : World} (h : Chg S a b) (k : Chg T b c) (ht : ∀ i, i < a.heap.size → T i → S i) : Chg S a c :=
  ⟨k.os.trans h.os, k.tape.trans h.tape, k.output.trans h.output, Nat.le_trans h.size k.size,
    fun i hi hs => (k.block i (Nat.lt_of_lt_of_le hi h.size) (fun t => hs (ht i hi t))).trans (h.block i hi hs)⟩
theorem Chg.drew {S : Nat → Prop} {a w : World} (h : Chg S a w) : Chg S a w.drew := ⟨h.os, h.tape, h.output, h.size, h.block⟩
theorem Chg.drewN {S : Nat → Prop} {a w : World} (h : Chg S a w) (n : Nat) : Chg S a (w.drewN n) := ⟨h.os, h.tape, h.output, h.size, h.block⟩
theorem Chg.alloc {S : Nat → Prop} {a w : World} (h : Chg S a w) (o : Obj) : Chg S a (w.alloc o) :=
  h.trans ⟨rfl, rfl, rfl, by simp, fun k hk _ => Below.heap_alloc _ _ _ hk⟩
theorem Chg.setCell {S : Nat → Prop} {a w : World} (h : Chg S a w) {p : Addr} (hp : p.block < a.heap.size → S p.block) (u : Value) : Chg S a (w.setCell p u) :=
  h.trans' (T := fun k => k = p.block) ⟨rfl, rfl, rfl, by simp [World.setCell], fun k _ hs => Below.heap_setCell _ _ _ _ hs⟩ (fun i hi e => by subst e; exact hp hi)
theorem Chg.of_grownBy {w w' : World} {row : Option Nat} (h : w.grownBy w' row) : Chg (fun k => row = some k) w w' :=
  ⟨h.os, h.tape, h.output, h.size, fun k hk hs => h.block k hk (fun e => hs e.symm)⟩
theorem Chg.below {B : Nat} {w w' : World} (h : Chg (fun k => B ≤ k) w w') (hB : B ≤ w.heap.size) : Below B w w' :=
  ⟨h.os, h.tape, h.output, h.size, fun k hk => h.block k (by omega) (by omega)⟩
theorem Chg.of_below {B : Nat} {w w' : World} (h : Below B w w') : Chg (fun k => B ≤ k) w w' :=
  ⟨h.os, h.tape, h.output, h.size, fun k _ hs => h.block k (by omega)⟩
theorem Chg.heap {S : Nat → Prop} {w w' : World} (h : Chg S w w') {k : Nat} {o : Obj} (hk : w.heap[k]? = some o) (hs : ¬ S k) : w'.heap[k]? = some o := by
  rw [h.block k (Array.getElem?_eq_some_iff.1 hk).1 hs]; exact hk
theorem Chg.cell {S : Nat → Prop} {w w' : World} (h : Chg S w w') {p : Addr} {v : Value} (hv : w.cell? p = some v) (hs : ¬ S p.block) : w'.cell? p = some v := by
  rw [World.cell?_of_block (h.block p.block (World.block_lt_of_cell? w p hv) hs)]; exact hv

theorem Chg.frozen {S : Nat → Prop} {w w' : World} (h : Chg S w w') {b : Nat} {c : Array Value} {T : TypeId} {i : Nat} (hk : w.heap[b]? = some (.cells c T (0, 0))) (hs : ¬ S b) : w'.frozen? ⟨b, i, none⟩ = false := by
  simp [World.frozen?, h.heap hk hs]
theorem Chg.new {S : Nat → Prop} {w a b : World} (h : Chg (fun _ => False) w a) (c : Chg S a b) (hs : ∀ k, S k → w.heap.size ≤ k) : Chg (fun _ => False) w b :=
  h.trans' c fun i hi ht => by have := hs i ht; omega
theorem Chg.belowAll {w w' : World} (h : Chg (fun _ => False) w w') : Below w.heap.size w w' := ⟨h.os, h.tape, h.output, h.size, fun k hk => h.block k hk (fun hf => hf)⟩
/-- S, and what is new between two worlds. -/
def ext (S : Nat → Prop) (w w' : World) (k : Nat) : Prop := S k ∨ (w.heap.size ≤ k ∧ k < w'.heap.size)
theorem ext_left {S : Nat → Prop} {w w' : World} {k : Nat} (h : S k) : ext S w w' k := .inl h
theorem ext_ext {S : Nat → Prop} {a b c : World} (h1 : a.heap.size ≤ b.heap.size) (h2 : b.heap.size ≤ c.heap.size) {k : Nat} (h : ext (ext S a b) b c k) : ext S a c k := by
  rcases h with (h | h) | h
  · exact .inl h
  · exact .inr ⟨h.1, by omega⟩
  · exact .inr ⟨by omega, h.2⟩
theorem ext_old {S : Nat → Prop} {w w' : World} {k : Nat} (h : ext S w w' k) (hk : k < w.heap.size) : S k := by
  rcases h with h | h
  · exact h
  · omega
theorem Chg.trans_ext {S : Nat → Prop} {a b c : World} (h : Chg S a b) (k : Chg (ext S a b) b c) : Chg S a c := h.trans' k fun _ hi ht => ext_old ht hi

theorem ext_ge {S : Nat → Prop} {w w' : World} {B : Nat} (hS : ∀ k, S k → B ≤ k) (hB : B ≤ w.heap.size) : ∀ k, ext S w w' k → B ≤ k := by
  intro k hk
  rcases hk with h | h
  · exact hS k h
  · omega
/-- The cells of bytes. -/
def bs (l : List UInt8) : List Value := l.map fun b => Value.int .u8 b.toNat
@[simp] theorem bs_length (l : List UInt8) : (bs l).length = l.length := by simp [bs]
theorem bs_append (a b : List UInt8) : bs (a ++ b) = bs a ++ bs b := by simp [bs]
theorem bs_get (l : List UInt8) (j : Nat) (h : j < l.length) : (bs l)[j]? = some (.int .u8 (l[j]).toNat) := by simp [bs, h]
theorem bs_one (l : List UInt8) : ∀ u ∈ bs l, u.oneCell' = true := by
  intro u hu; simp only [bs, List.mem_map] at hu; obtain ⟨b, _, rfl⟩ := hu; rfl
theorem bs_inj {a b : List UInt8} (h : bs a = bs b) : a = b := by
  have := congrArg (List.map fun v => match v with | Value.int _ n => UInt8.ofNat n.toNat | _ => 0) h
  simpa [bs, Function.comp_def] using this

theorem addr_add (g o j : Nat) : (⟨g, o, none⟩ : Addr).add j = ⟨g, o + j, none⟩ := by unfold Addr.add; split <;> simp_all

/-- A slice that can be read: n elements of 'size' cells each. 'B' tells its block. -/
def Reads (w : World) (size : Nat) (v : Value) (n : Nat) (xs : List Value) : Prop :=
  xs.length = n * size ∧
  ((v = .slice none 0 0 ∧ n = 0) ∨
   ∃ g o cap, v = .slice (some ⟨g, o, none⟩) n cap ∧ n ≤ cap ∧ cap ≤ maxLen ∧ g < w.heap.size ∧ ∀ j u, xs[j]? = some u → w.cell? ⟨g, o + j, none⟩ = some u)

theorem Reads.kept {w w' : World} {size : Nat} {v : Value} {n : Nat} {xs : List Value} (h : Reads w size v n xs) {S : Nat → Prop} (ht : Chg S w w') (hs : ∀ k, v.ownBlock = some k → ¬ S k) : Reads w' size v n xs := by
  refine ⟨h.1, ?_⟩
  rcases h.2 with hn | ⟨g, o, cap, rfl, h1, h2, h3, h4⟩
  · exact .inl hn
  · exact .inr ⟨g, o, cap, rfl, h1, h2, Nat.lt_of_lt_of_le h3 ht.size, fun j u hj => ht.cell (h4 j u hj) (hs g rfl)⟩
theorem Reads.lt {w : World} {size : Nat} {v : Value} {n : Nat} {xs : List Value} (h : Reads w size v n xs) : ∀ k, v.ownBlock = some k → k < w.heap.size := by
  intro k hk
  rcases h.2 with ⟨rfl, _⟩ | ⟨g, o, cap, rfl, h1, h2, h3, h4⟩
  · simp [Value.ownBlock] at hk
  · simp [Value.ownBlock] at hk; omega
theorem Reads.nil (w : World) (size : Nat) : Reads w size (.slice none 0 0) 0 [] := ⟨by simp, .inl ⟨rfl, rfl⟩⟩

/-- A slice that can be read and whose room may be written. -/
def Owns (w : World) (size : Nat) (v : Value) (n : Nat) (xs : List Value) : Prop :=
  xs.length = n * size ∧
  ((v = .slice none 0 0 ∧ n = 0) ∨
   ∃ g o cap, v = .slice (some ⟨g, o, none⟩) n cap ∧ n ≤ cap ∧ cap ≤ maxLen ∧ g < w.heap.size ∧ (∀ j u, xs[j]? = some u → w.cell? ⟨g, o + j, none⟩ = some u) ∧
    ∀ i, i < cap * size → (w.cell? ⟨g, o + i, none⟩).isSome = true ∧ w.frozen? ⟨g, o + i, none⟩ = false)
theorem Owns.reads {w : World} {size : Nat} {v : Value} {n : Nat} {xs : List Value} (h : Owns w size v n xs) : Reads w size v n xs := by
  refine ⟨h.1, ?_⟩
  rcases h.2 with hn | ⟨g, o, cap, rfl, h1, h2, h3, h4, _⟩
  · exact .inl hn
  · exact .inr ⟨g, o, cap, rfl, h1, h2, h3, h4⟩
theorem Owns.nil (w : World) (size : Nat) : Owns w size (.slice none 0 0) 0 [] := ⟨by simp, .inl ⟨rfl, rfl⟩⟩
theorem Owns.lt {w : World} {size : Nat} {v : Value} {n : Nat} {xs : List Value} (h : Owns w size v n xs) : ∀ k, v.ownBlock = some k → k < w.heap.size := h.reads.lt
theorem Owns.kept {w w' : World} {size : Nat} {v : Value} {n : Nat} {xs : List Value} (h : Owns w size v n xs) {S : Nat → Prop} (ht : Chg S w w') (hs : ∀ k, v.ownBlock = some k → ¬ S k) : Owns w' size v n xs := by
  refine ⟨h.1, ?_⟩
  rcases h.2 with hn | ⟨g, o, cap, rfl, h1, h2, h3, h4, h5⟩
  · exact .inl hn
  · have hb := ht.block g h3 (hs g rfl)
    refine .inr ⟨g, o, cap, rfl, h1, h2, Nat.lt_of_lt_of_le h3 ht.size, fun j u hj => ht.cell (h4 j u hj) (hs g rfl), fun i hi => ?_⟩
    rw [World.cell?_of_block (w := w) (w' := w') hb, World.frozen?_of_block (w := w) (w' := w') hb]
    exact h5 i hi
/-- A new block whose first cells are xs. -/
theorem Owns.made {w' : World} {size n cap : Nat} {cur : Array Value} {T : TypeId} {xs : List Value} {g : Nat} (hg : w'.heap[g]? = some (.cells cur T (0, 0))) (hx : xs.length = n * size) (hn : n ≤ cap) (hc : cap ≤ maxLen)
    (hs : cur.size = cap * size) (htake : ∀ (j : Nat) (u : Value), xs[j]? = some u → cur[j]? = some u) : Owns w' size (.slice (some ⟨g, 0, none⟩) n cap) n xs := by
  refine ⟨hx, .inr ⟨g, 0, cap, rfl, hn, hc, (Array.getElem?_eq_some_iff.1 hg).1, fun j u hj => ?_, fun i hi => ⟨?_, ?_⟩⟩⟩
  · simp [World.cell?, hg, htake j u hj]
  · simp [World.cell?, hg]; omega
  · simp [World.frozen?, hg]

theorem run_firstCells_of {P : Program} {w : World} {size n : Nat} {v : Value} {xs : List Value} (h : Reads w size v n xs) : (Builtin.firstCells size n v).run P w = .ok xs.toArray w := by
  rcases h.2 with ⟨rfl, rfl⟩ | ⟨g, o, cap, rfl, h1, h2, h3, h4⟩
  · have : xs = [] := List.eq_nil_of_length_eq_zero (by simpa using h.1)
    subst this
    simp [Builtin.firstCells]
  · exact run_firstCells_some w size n ⟨g, o, none⟩ n cap xs h.1 (fun j u hj => by rw [addr_add]; exact h4 j u hj)
theorem lenOf_of {P : Program} {w : World} {size n : Nat} {v : Value} {xs : List Value} (h : Reads w size v n xs) : (Builtin.lenOf v).run P w = .ok n w := by
  rcases h.2 with ⟨rfl, rfl⟩ | ⟨g, o, cap, rfl, _⟩ <;> rfl

theorem heap_setCells (b : Nat) : ∀ (vs : List Value) (o : Nat) (w : World) (k : Nat), k ≠ b → (w.setCells b o vs).heap[k]? = w.heap[k]?
  | [], _, _, _, _ => rfl
  | v :: r, o, w, k, h => by rw [World.setCells, heap_setCells b r (o + 1) _ k h, Below.heap_setCell _ _ _ _ h]
theorem size_setCells (b : Nat) : ∀ (vs : List Value) (o : Nat) (w : World), (w.setCells b o vs).heap.size = w.heap.size
  | [], _, _ => rfl
  | v :: r, o, w => by rw [World.setCells, size_setCells b r (o + 1), World.size_setCell]
theorem streams_setCells (b : Nat) : ∀ (vs : List Value) (o : Nat) (w : World), (w.setCells b o vs).os = w.os ∧ (w.setCells b o vs).tape = w.tape ∧ (w.setCells b o vs).output = w.output
  | [], _, _ => ⟨rfl, rfl, rfl⟩
  | v :: r, o, w => by rw [World.setCells]; exact streams_setCells b r (o + 1) _
theorem Chg.setCells (w : World) (b o : Nat) (vs : List Value) : Chg (fun k => k = b) w (w.setCells b o vs) :=
  have h := streams_setCells b vs o w
  ⟨h.1, h.2.1, h.2.2, by rw [size_setCells]; exact Nat.le_refl _, fun k _ hs => heap_setCells b vs o w k hs⟩

/-- append(v, x...): v the call's own, x is read. -/
theorem run_app {P : Program} (w : World) (t ty e : TypeId) (i : TypeInfo) (z : Value) (size bytes : Nat) (ht : P.underlying t = some (.slice e)) (hi : P.info? e = some i) (hz : i.zero = some z)
    (hsize : i.size = size) (hby : i.bytes = bytes) (hzs : z.cells.size = size)
    (v : Value) (n : Nat) (xs : List Value) (hown : Owns w size v n xs) (x : Value) (m : Nat) (news : List Value) (hx : Reads w size x m news) (h1 : ∀ u ∈ news, u.oneCell' = true)
    (h63 : n + m ≤ maxLen) (hbytes : (n + m) * bytes ≤ 140737488355328) :
    ∃ v' w', (Builtin.append_ #[t, t] ty #[v, x]).run P w = .ok v' w' ∧ Owns w' size v' (n + m) (xs ++ news) ∧ Chg (fun k => v.ownBlock = some k) w w' ∧
      (∀ k, v'.ownBlock = some k → v.ownBlock = some k ∨ k = w.heap.size) ∧ (v' = .slice none 0 0 ↔ v = .slice none 0 0 ∧ m = 0) := by
  subst hsize
  subst hby
  have hlen : (xs ++ news).length = (n + m) * i.size := by rw [List.length_append, hown.1, hx.1, Nat.add_mul]
  have grown : ∀ (old : Nat) (w0 : World), w0.heap.size = w.heap.size → ∀ c, n + m ≤ c → c ≤ maxLen →
      Owns (w0.alloc (.cells (xs.toArray ++ news.toArray ++ Builtin.zeroCells z.cells (c - (n + m))) e)) i.size (.slice (some ⟨w.heap.size, 0, none⟩) (n + m) c) (n + m) (xs ++ news) := by
    intro old w0 hw0 c hge hcm
    rw [← hw0]
    refine Owns.made (heap_alloc_new w0 _) hlen hge hcm ?_ ?_
    · simp only [Array.size_append, List.size_toArray, size_zeroCells, hzs, hown.1, hx.1, ← Nat.add_mul]
      congr 1
      omega
    · intro j u hj
      have : j < (xs ++ news).length := (List.getElem?_eq_some_iff.1 hj).1
      rw [Array.getElem?_append_left (by simpa using this)]
      simpa using hj
  have chg : ∀ (o : Obj), Chg (fun k => v.ownBlock = some k) w (w.drew.alloc o) := fun o => ((Chg.refl _ w).drew).alloc o
  rcases hown.2 with ⟨rfl, rfl⟩ | ⟨g, o, cap, rfl, hnc, hcm, hgl, hcells, hroom⟩
  · have hxs : xs = [] := List.eq_nil_of_length_eq_zero (by simpa using hown.1)
    subst hxs
    by_cases hm : m = 0
    · subst hm
      have hn : news = [] := List.eq_nil_of_length_eq_zero (by simpa using hx.1)
      subst hn
      refine ⟨.slice none 0 0, w, ?_, Owns.nil w _, Chg.refl _ _, by simp [Value.ownBlock], by simp⟩
      have hf := run_firstCells_of (P := P) hx
      rcases hx.2 with ⟨rfl, _⟩ | ⟨g', o', c, rfl, _⟩
      · simp [Builtin.append_, run_underlying ht, sizeOf, typeInfo, hi, Builtin.lenOf, hf]
      · simp [Builtin.append_, run_underlying ht, sizeOf, typeInfo, hi, Builtin.lenOf, hf]
    · rcases hx.2 with ⟨rfl, h0⟩ | ⟨g, o, c, rfl, g1, g2, g3, g4⟩
      · exact absurd h0 hm
      · have hr := run_append_nil (P := P) w t ty e i z ht hi hz ⟨g, o, none⟩ m c news hx.1 (fun j u hj => by rw [addr_add]; exact g4 j u hj) (by omega) (by simp only [maxLen] at h63; omega) (by have hb := hbytes; simp only [Nat.zero_add] at hb; omega)
        have hge := grownCap_ge w m 0 e
        have hcm : grownCap w m 0 e ≤ maxLen := grownCap_le_maxLen w m 0 e (by omega)
        have hgr := grown 0 w.drew rfl (grownCap w m 0 e) (by omega) hcm
        simp only [Nat.zero_add, List.nil_append, Array.empty_append] at hgr ⊢
        exact ⟨_, _, hr, hgr, chg _, by simp [Value.ownBlock], by simp [hm]⟩
  · by_cases hfit : n + m ≤ cap
    · have hf := run_firstCells_of (P := P) hx
      have hl := lenOf_of (P := P) hx
      have hle : n * i.size + news.length ≤ cap * i.size := by rw [hx.1, ← Nat.add_mul]; exact Nat.mul_le_mul_right _ hfit
      have hst := run_storeCells_cells (P := P) g (o + n * i.size) news 0 w (fun j hj => by
          have := (hroom (n * i.size + j) (by omega)).1
          rwa [show o + n * i.size + 0 + j = o + (n * i.size + j) by omega]) (fun j hj => by
          have := (hroom (n * i.size + j) (by omega)).2
          rwa [show o + n * i.size + 0 + j = o + (n * i.size + j) by omega]) h1
      simp only [Nat.add_zero] at hst
      refine ⟨.slice (some ⟨g, o, none⟩) (n + m) cap, w.setCells g (o + n * i.size) news, ?_, ⟨hlen, .inr ⟨g, o, cap, rfl, hfit, hcm, by rw [size_setCells]; exact hgl, ?_, ?_⟩⟩, ?_, ?_, by simp⟩
      · clear hl
        rcases hx.2 with ⟨rfl, rfl⟩ | ⟨g', o', c, rfl, _⟩
        · simp only [Nat.add_zero] at hfit ⊢
          simp [Builtin.append_, run_underlying ht, sizeOf, typeInfo, hi, Builtin.lenOf, hfit, hf, addr_add, hst]
        · simp [Builtin.append_, run_underlying ht, sizeOf, typeInfo, hi, Builtin.lenOf, hfit, hf, addr_add, hst]
      · intro j u hj
        by_cases hjx : j < xs.length
        · rw [World.cell?_setCells_out _ _ _ _ _ (fun _ _ => Or.inl (by rw [hown.1] at hjx; simp; omega))]
          rw [List.getElem?_append_left hjx] at hj
          exact hcells j u hj
        · rw [List.getElem?_append_right (by omega)] at hj
          obtain ⟨hj1, hj2⟩ := List.getElem?_eq_some_iff.1 hj
          have := World.cell?_setCells_in g news (o + n * i.size) w (fun q hq => by
            have := (hroom (n * i.size + q) (by omega)).1
            rwa [show o + n * i.size + q = o + (n * i.size + q) by omega]) (j - xs.length) hj1
          rw [show o + j = o + n * i.size + (j - xs.length) by rw [hown.1] at hjx ⊢; omega, this, hj2]
      · intro q hq
        rw [World.frozen?_setCells]
        refine ⟨?_, (hroom q hq).2⟩
        by_cases hin : n * i.size ≤ q ∧ q < n * i.size + news.length
        · have := World.cell?_setCells_in g news (o + n * i.size) w (fun p hp => by
            have := (hroom (n * i.size + p) (by omega)).1
            rwa [show o + n * i.size + p = o + (n * i.size + p) by omega]) (q - n * i.size) (by omega)
          rw [show o + q = o + n * i.size + (q - n * i.size) by omega, this]; rfl
        · rw [World.cell?_setCells_out _ _ _ _ _ (fun _ _ => by simp; omega)]
          exact (hroom q hq).1
      · exact (Chg.setCells w g _ news).mono (fun k _ hk => by simp [Value.ownBlock, hk])
      · intro k hk; exact .inl hk
    · rcases hx.2 with ⟨rfl, h0⟩ | ⟨g', o', c, rfl, g1, g2, g3, g4⟩
      · omega
      · have hr := run_append_grow (P := P) w t ty e i z ht hi hz ⟨g, o, none⟩ n cap xs hown.1 (fun j u hj => by rw [addr_add]; exact hcells j u hj) ⟨g', o', none⟩ m c news hx.1 (fun j u hj => by rw [addr_add]; exact g4 j u hj) (by omega) (by simp only [maxLen] at h63; omega) (growslice_fits (by omega) hbytes)
        have hgr := grown cap w.drew rfl (grownCap w (n + m) cap e) (grownCap_ge w (n + m) cap e) (grownCap_le_maxLen w (n + m) cap e h63)
        refine ⟨_, _, hr, hgr, chg _, ?_, by simp⟩
        intro k hk
        simp [Value.ownBlock] at hk
        exact .inr hk.symm

theorem wpList_app {P : Program} {w : World} {ops : Array Oper} {rest : List Oper} {o : Oper} {a : Act} {Q : Exit → Act → World → Prop} (hgd : o.guard = none) (s x : Operand) (t : TypeId)
    (ho : o.op = .call { callee := .builtin .append, args := #[s, x], argTypes := #[t, t] })
    (e : TypeId) (i : TypeInfo) (z : Value) (size bytes : Nat) (ht : P.underlying t = some (.slice e)) (hi : P.info? e = some i) (hz : i.zero = some z)
    (hsize : i.size = size) (hby : i.bytes = bytes) (hzs : z.cells.size = size)
    (v : Value) (n : Nat) (xs : List Value) (hs : a.eval s = v) (hown : Owns w size v n xs)
    (y : Value) (m : Nat) (news : List Value) (hy : a.eval x = y) (hx : Reads w size y m news) (h1 : ∀ u ∈ news, u.oneCell' = true)
    (h63 : n + m ≤ maxLen) (hbytes : (n + m) * bytes ≤ 140737488355328)
    (h : ∀ v' w', Owns w' size v' (n + m) (xs ++ news) → Chg (fun k => v.ownBlock = some k) w w' → (∀ k, v'.ownBlock = some k → v.ownBlock = some k ∨ k = w.heap.size) → (v' = .slice none 0 0 ↔ v = .slice none 0 0 ∧ m = 0) → wpList P ops Q rest (a.put o.dst v') w') : wpList P ops Q (o :: rest) a w :=
  wpList_plain hgd fun K hK => by
    obtain ⟨v', w', hr, h2, h3, h4, h5⟩ := run_app (P := P) w t o.type e i z size bytes ht hi hz hsize hby hzs v n xs hown y m news hx h1 h63 hbytes
    unfold Oper.wp execOp
    simp only [ho, resolve, invoke, builtin, Sem.run_bind, Sem.run_pure, Result.andThen_ok, List.map_toArray, List.map_cons, List.map_nil, hs, hy, hr]
    exact hK _ _ (h v' w' h2 h3 h4 h5)

/-- A byte slice that reads as l. -/
def RB (w : World) (v : Value) (l : List UInt8) : Prop := Reads w 1 v l.length (bs l)
/-- A byte slice that reads as l and whose room may be written. -/
def OB (w : World) (v : Value) (l : List UInt8) : Prop := Owns w 1 v l.length (bs l)
theorem OB.rb {w : World} {v : Value} {l : List UInt8} (h : OB w v l) : RB w v l := Owns.reads h
theorem RB.kept {w w' : World} {v : Value} {l : List UInt8} (h : RB w v l) {S : Nat → Prop} (ht : Chg S w w') (hs : ∀ k, v.ownBlock = some k → ¬ S k) : RB w' v l := Reads.kept h ht hs
theorem OB.kept {w w' : World} {v : Value} {l : List UInt8} (h : OB w v l) {S : Nat → Prop} (ht : Chg S w w') (hs : ∀ k, v.ownBlock = some k → ¬ S k) : OB w' v l := Owns.kept h ht hs
theorem OB.lt {w : World} {v : Value} {l : List UInt8} (h : OB w v l) : ∀ k, v.ownBlock = some k → k < w.heap.size := h.rb.lt
theorem RB.lt' {w : World} {v : Value} {l : List UInt8} (h : RB w v l) : ∀ k, v.ownBlock = some k → k < w.heap.size := Reads.lt h
theorem OB.nil (w : World) : OB w (.slice none 0 0) [] := Owns.nil w 1
theorem RB.nil (w : World) : RB w (.slice none 0 0) [] := Reads.nil w 1
/-- A new block of one byte, as 'append(s, c)' makes it. -/
theorem RB.one (w : World) (c : Int) (T : TypeId) (h0 : 0 ≤ c) (h1 : c < 256) : RB (w.alloc (.cells #[.int .u8 c] T)) (.slice (some ⟨w.heap.size, 0, none⟩) 1 1) [UInt8.ofNat c.toNat] := by
  refine ⟨by simp, .inr ⟨_, 0, 1, rfl, by simp, by simp [maxLen], by simp, fun j u hj => ?_⟩⟩
  have hc : ((UInt8.ofNat c.toNat).toNat : Int) = c := by simp [UInt8.toNat_ofNat']; omega
  simp only [bs, List.map_cons, List.map_nil, hc] at hj
  simp only [Nat.zero_add, World.cell?_alloc_new]
  simpa using hj
theorem OB.mk {w : World} {v : Value} {n : Nat} {l : List UInt8} (h : Owns w 1 v n (bs l)) (hn : n = l.length) : OB w v l := by subst hn; exact h

theorem RB.form {w : World} {v : Value} {l : List UInt8} (h : RB w v l) : ∃ a c, v = .slice a l.length c := by
  rcases h.2 with ⟨rfl, h0⟩ | ⟨g, o, cap, rfl, _⟩
  · exact ⟨none, 0, by rw [h0]⟩
  · exact ⟨_, _, rfl⟩
theorem OB.form {w : World} {v : Value} {l : List UInt8} (h : OB w v l) : ∃ a c, v = .slice a l.length c := h.rb.form
/-- A new empty slice that isn't nil, its block the last one. -/
theorem OB.empty (w : World) (T : TypeId) : OB (w.alloc (.cells #[] T)) (.slice (some ⟨w.heap.size, 0, none⟩) 0 0) [] :=
  ⟨by simp, .inr ⟨_, 0, 0, rfl, by simp, by simp [maxLen], by simp, by simp [bs], by simp⟩⟩
theorem OB.alloc {w : World} {v : Value} {l : List UInt8} (h : OB w v l) (o : Obj) : OB (w.alloc o) v l := h.kept (S := fun _ => False) ((Chg.refl _ w).alloc o) (fun _ _ hf => hf)
theorem RB.alloc {w : World} {v : Value} {l : List UInt8} (h : RB w v l) (o : Obj) : RB (w.alloc o) v l := h.kept (S := fun _ => False) ((Chg.refl _ w).alloc o) (fun _ _ hf => hf)

/-- append(v, x...) of bytes. -/
theorem wpList_app_bytes {P : Program} {w : World} {ops : Array Oper} {rest : List Oper} {o : Oper} {a : Act} {Q : Exit → Act → World → Prop} (hgd : o.guard = none) (s x : Operand) (t : TypeId)
    (ho : o.op = .call { callee := .builtin .append, args := #[s, x], argTypes := #[t, t] })
    (e : TypeId) (ht : P.underlying t = some (.slice e)) (hi : (P.info? e).map (fun i => (i.zero, i.size, i.bytes)) = some (some (.int .u8 0), 1, 1))
    (v y : Value) (l m : List UInt8) (hs : a.eval s = v) (hy : a.eval x = y) (hown : OB w v l) (hx : RB w y m) (hl : l.length + m.length ≤ 140737488355328)
    (h : ∀ v' w', OB w' v' (l ++ m) → Chg (fun k => v.ownBlock = some k) w w' → (∀ k, v'.ownBlock = some k → v.ownBlock = some k ∨ k = w.heap.size) → (v' = .slice none 0 0 ↔ v = .slice none 0 0 ∧ m.length = 0) → wpList P ops Q rest (a.put o.dst v') w') : wpList P ops Q (o :: rest) a w := by
  obtain ⟨i, hi, hz0, hz1, hz2⟩ := info_parts hi
  refine wpList_app hgd s x t ho e i (.int .u8 0) 1 1 ht hi hz0 hz1 hz2 rfl v _ _ hs hown y _ _ hy hx (bs_one m) (by simp only [maxLen]; omega) (by omega) fun v' w' h1 h2 h3 h4 => h v' w' ?_ h2 h3 h4
  exact OB.mk (by rw [bs_append]; exact h1) (by simp)

/-- append(v, c) of a byte: the block of c is the last one of the world. -/
theorem wpList_app_byte {P : Program} {w : World} {ops : Array Oper} {rest : List Oper} {o : Oper} {a : Act} {Q : Exit → Act → World → Prop} (hgd : o.guard = none) (s x : Operand) (t : TypeId)
    (ho : o.op = .call { callee := .builtin .append, args := #[s, x], argTypes := #[t, t] })
    (e : TypeId) (ht : P.underlying t = some (.slice e)) (hi : (P.info? e).map (fun i => (i.zero, i.size, i.bytes)) = some (some (.int .u8 0), 1, 1))
    (v : Value) (l : List UInt8) (c : Int) (T : TypeId) (hs : a.eval s = v) (hy : a.eval x = .slice (some ⟨w.heap.size, 0, none⟩) 1 1) (hown : OB w v l) (h0 : 0 ≤ c) (h1 : c < 256) (hl : l.length + 1 ≤ 140737488355328)
    (h : ∀ v' w', OB w' v' (l ++ [UInt8.ofNat c.toNat]) → Chg (fun k => v.ownBlock = some k) w w' → (∀ k, v'.ownBlock = some k → v.ownBlock = some k ∨ w.heap.size ≤ k) → v' ≠ .slice none 0 0 → wpList P ops Q rest (a.put o.dst v') w') :
    wpList P ops Q (o :: rest) a (w.alloc (.cells #[.int .u8 c] T)) :=
  wpList_app_bytes hgd s x t ho e ht hi v _ l [UInt8.ofNat c.toNat] hs hy (hown.alloc _) (RB.one w c T h0 h1) (by simpa using hl) fun v' w' g1 g2 g3 g4 =>
    h v' w' g1 (((Chg.refl _ w).alloc _).trans' g2 (fun _ _ hk => hk)) (fun k hk => by rcases g3 k hk with g | g <;> simp_all) (fun hn => by simpa using g4.1 hn)

/-- string(b): what is read. -/
theorem run_string_of {P : Program} (w : World) (src dst e : TypeId) (hs : P.underlying src = some (.slice e)) (he : P.underlying e = some (.int .u8)) (hd : P.underlying dst = some .string)
    (v : Value) (l : List UInt8) (h : RB w v l) : (convert src dst v).run P w = .ok (.string ⟨l.toArray⟩) w := by
  rcases h.2 with ⟨rfl, h0⟩ | ⟨g, o, cap, rfl, h1, h2, h3, h4⟩
  · have : l = [] := by simpa using h0
    subst this
    rw [run_convert_bytes_string w src dst e none 0 0 hs he hd]
    rfl
  · rw [run_convert_bytes_string w src dst e (some ⟨g, o, none⟩) l.length cap hs he hd]
    have hl := run_loadCells_list (P := P) w ⟨g, o, none⟩ (bs l) (fun j v hj => by rw [addr_add]; exact h4 j v hj)
    have := run_bytesToString (P := P) w ⟨g, o, none⟩ l.length cap (l.map fun b => (b.toNat : Int)) (by rw [bs_length] at hl; rw [hl]; simp [bs, Function.comp_def])
    rw [this]
    congr 2
    have key : ∀ (m : List UInt8) (s : ByteArray), (m.map fun b => (b.toNat : Int)).foldl (fun r n => r.push (UInt8.ofNat n.toNat)) s = ⟨s.data ++ m.toArray⟩ := by
      intro m
      induction m with
      | nil => intro s; simp
      | cons a m ih => intro s; simp only [List.map_cons, List.foldl_cons, ih]; simp [ByteArray.push]
    rw [key]
    simp [ByteArray.empty, ByteArray.emptyWithCapacity]
    rfl

/-- The value's own block is new behind w. -/
def Fresh (w : World) (v : Value) : Prop := ∀ k, v.ownBlock = some k → w.heap.size ≤ k
theorem heap_setCell_same {w : World} {b : Nat} {c : Array Value} {T : TypeId} {f : Nat × Nat} (h : w.heap[b]? = some (.cells c T f)) (i : Nat) (v : Value) : (w.setCell ⟨b, i, none⟩ v).heap[b]? = some (.cells (c.setIfInBounds i v) T f) := by
  simp [World.setCell, Array.getElem?_modify, h]
theorem ext_mono {S : Nat → Prop} {w w1 w2 : World} (h : w1.heap.size ≤ w2.heap.size) {k : Nat} (hk : ext S w w1 k) : ext S w w2 k := by
  rcases hk with h1 | h1
  · exact .inl h1
  · exact .inr ⟨h1.1, by omega⟩
theorem cell_of_heap {w : World} {b : Nat} {c : Array Value} {T : TypeId} {f : Nat × Nat} (h : w.heap[b]? = some (.cells c T f)) (i : Nat) : w.cell? ⟨b, i, none⟩ = c[i]? := by
  simp [World.cell?, h]
theorem frozen_of_heap {w : World} {b : Nat} {c : Array Value} {T : TypeId} (h : w.heap[b]? = some (.cells c T (0, 0))) (i : Nat) : w.frozen? ⟨b, i, none⟩ = false := by
  simp [World.frozen?, h]

/-- A struct of one field, a byte slice of its own, at block b: its bytes are l; its blocks are of S. -/
def WriterAt (w : World) (S : Nat → Prop) (b : Nat) (l : List UInt8) : Prop :=
  ∃ bv T, w.heap[b]? = some (.cells #[bv] T (0, 0)) ∧ OB w bv l ∧ bv.ownBlock ≠ some b ∧ S b ∧ ∀ k, bv.ownBlock = some k → S k
theorem WriterAt.mono {w : World} {S T : Nat → Prop} {b : Nat} {l : List UInt8} (h : WriterAt w S b l) (hs : ∀ k, S k → T k) : WriterAt w T b l := by
  obtain ⟨bv, t, h1, h2, h3, h4, h5⟩ := h
  exact ⟨bv, t, h1, h2, h3, hs _ h4, fun k hk => hs k (h5 k hk)⟩
theorem WriterAt.kept {w w' : World} {S T : Nat → Prop} {b : Nat} {l : List UInt8} (h : WriterAt w S b l) (ht : Chg T w w') (hs : ∀ k, S k → ¬ T k) : WriterAt w' S b l := by
  obtain ⟨bv, t, h1, h2, h3, h4, h5⟩ := h
  exact ⟨bv, t, ht.heap h1 (hs _ h4), h2.kept ht (fun k hk => hs k (h5 k hk)), h3, h4, h5⟩
/-- A new one, its slice nil. -/
theorem WriterAt.fresh (w : World) (T : TypeId) : WriterAt (w.alloc (.cells #[.slice none 0 0] T)) (fun k => k = w.heap.size) w.heap.size [] :=
  ⟨_, T, heap_alloc_new w _, OB.nil _, by simp [Value.ownBlock], rfl, by simp [Value.ownBlock]⟩
theorem WriterAt.fresh_at (w : World) (T : TypeId) (n : Nat) (h : w.heap.size = n) : WriterAt (w.alloc (.cells #[.slice none 0 0] T)) (fun k => k = n) n [] := by
  subst h; exact WriterAt.fresh w T
theorem WriterAt.alloc {w : World} {S : Nat → Prop} {b : Nat} {l : List UInt8} (h : WriterAt w S b l) (o : Obj) : WriterAt (w.alloc o) S b l := h.kept (T := fun _ => False) ((Chg.refl _ w).alloc o) (fun _ _ hf => hf)
/-- Its slice is turned by an append, and stored. -/
theorem WriterAt.put {S : Nat → Prop} {w wr w2 : World} {b : Nat} {bv v' : Value} {T : TypeId} {l2 : List UInt8} (hch : Chg S w wr) (hb : wr.heap[b]? = some (.cells #[bv] T (0, 0))) (hne : bv.ownBlock ≠ some b)
    (hSb : ext S w wr b) (hSv : ∀ k, bv.ownBlock = some k → ext S w wr k) (hch2 : Chg (fun k => bv.ownBlock = some k) wr w2) (hob2 : OB w2 v' l2) (hin2 : ∀ k, v'.ownBlock = some k → bv.ownBlock = some k ∨ wr.heap.size ≤ k) :
    WriterAt (w2.setCell ⟨b, 0, none⟩ v') (ext S w (w2.setCell ⟨b, 0, none⟩ v')) b l2 ∧ Chg S w (w2.setCell ⟨b, 0, none⟩ v') := by
  have hb2 := hch2.heap hb (fun h => hne h)
  have hlt : b < wr.heap.size := (Array.getElem?_eq_some_iff.1 hb).1
  have hc3 : Chg (fun k => k = b) w2 (w2.setCell ⟨b, 0, none⟩ v') := (Chg.refl (fun k => k = b) w2).setCell (p := ⟨b, 0, none⟩) (fun _ => rfl) v'
  have hnb : v'.ownBlock ≠ some b := fun h => by
    rcases hin2 b h with h1 | h1
    · exact hne h1
    · omega
  have hsz : wr.heap.size ≤ (w2.setCell ⟨b, 0, none⟩ v').heap.size := by rw [World.size_setCell]; exact hch2.size
  refine ⟨⟨v', T, heap_setCell_same hb2 0 v', hob2.kept hc3 (fun k hk e => hnb (e ▸ hk)), hnb, ext_mono hsz hSb, fun k hk => ?_⟩, ?_⟩
  · rcases hin2 k hk with h1 | h1
    · exact ext_mono hsz (hSv k h1)
    · refine .inr ⟨by have := hch.size; omega, ?_⟩
      rw [World.size_setCell]; exact hob2.lt k hk
  · refine hch.trans_ext (Chg.mono (S := fun k => bv.ownBlock = some k ∨ k = b) ((hch2.mono fun k _ h => .inl h).trans' hc3 fun k _ h => .inr h) fun k _ hk => ?_)
    rcases hk with hk | rfl
    · exact hSv k hk
    · exact hSb

/-- []byte(s). -/
theorem bytesWorld_chg (w : World) (e : TypeId) (s : ByteArray) : Chg (fun _ => False) w (Lib.bytesWorld w e s) :=
  ⟨rfl, rfl, rfl, by rw [Lib.bytesWorld_size]; omega, fun k hk _ => Lib.bytesWorld_at_old w e s k hk⟩
theorem bytesWorld_rb (w : World) (e : TypeId) (s : ByteArray) (hs : s.size ≤ 140737488355328) : RB (Lib.bytesWorld w e s) (.slice (some ⟨w.heap.size, 0, none⟩) s.size (grownCap w s.size 0 e)) s.data.toList := by
  have hl : s.data.toList.length = s.size := by simp
  refine ⟨by simp, .inr ⟨_, 0, _, by rw [hl], ?_, ?_, by rw [Lib.bytesWorld_size]; omega, fun j u hj => ?_⟩⟩
  · rw [hl]; exact grownCap_ge w s.size 0 e
  · exact grownCap_le_maxLen w s.size 0 e (by simp only [maxLen]; omega)
  · have hj' : j < s.data.toList.length := by simpa using (List.getElem?_eq_some_iff.1 hj).1
    rw [bs_get _ _ hj'] at hj
    rw [Nat.zero_add, Lib.bytesWorld_cell w e s j (by omega), ← hj]
    simp only [List.getD, Array.getElem?_toList]
    rw [Array.getElem?_eq_getElem (by simpa using hj')]
    simp

/-- A struct of a byte slice and a number: what is left, and the first error. -/
def ReaderAt (w : World) (S : Nat → Prop) (b : Nat) (l : List UInt8) (e : Int) : Prop :=
  ∃ bv T, w.heap[b]? = some (.cells #[bv, .int .i64 e] T (0, 0)) ∧ RB w bv l ∧ bv.ownBlock ≠ some b ∧ S b ∧ ∀ k, bv.ownBlock = some k → S k
theorem ReaderAt.mono {w : World} {S T : Nat → Prop} {b : Nat} {l : List UInt8} {e : Int} (h : ReaderAt w S b l e) (hs : ∀ k, S k → T k) : ReaderAt w T b l e := by
  obtain ⟨bv, t, h1, h2, h3, h4, h5⟩ := h
  exact ⟨bv, t, h1, h2, h3, hs _ h4, fun k hk => hs k (h5 k hk)⟩
theorem ReaderAt.kept {w w' : World} {S T : Nat → Prop} {b : Nat} {l : List UInt8} {e : Int} (h : ReaderAt w S b l e) (ht : Chg T w w') (hs : ∀ k, S k → ¬ T k) : ReaderAt w' S b l e := by
  obtain ⟨bv, t, h1, h2, h3, h4, h5⟩ := h
  exact ⟨bv, t, ht.heap h1 (hs _ h4), h2.kept ht (fun k hk => hs k (h5 k hk)), h3, h4, h5⟩

/-- A piece of what is read. -/
theorem Reads.piece {w : World} {size : Nat} {a : Option Addr} {len cap : Nat} {xs : List Value} (h : Reads w size (.slice a len cap) len xs) {lo hi m : Nat} (h1 : lo ≤ hi) (h2 : hi ≤ len) (h3 : hi ≤ m) (h4 : m ≤ cap) :
    Reads w size (.slice (if m = lo then a else a.map (·.add (lo * size))) (hi - lo) (m - lo)) (hi - lo) ((xs.drop (lo * size)).take ((hi - lo) * size)) := by
  have hlen : ((xs.drop (lo * size)).take ((hi - lo) * size)).length = (hi - lo) * size := by
    rw [List.length_take, List.length_drop, h.1]
    apply Nat.min_eq_left
    have := Nat.mul_le_mul_right size h2
    have e : (hi - lo) * size + lo * size = hi * size := by rw [← Nat.add_mul]; congr 1; omega
    omega
  refine ⟨hlen, ?_⟩
  rcases h.2 with ⟨hv, h0⟩ | ⟨g, o, c, hv, g1, g2, g3, g4⟩
  · simp only [Value.slice.injEq] at hv
    obtain ⟨rfl, rfl, rfl⟩ := hv
    obtain rfl : m = 0 := by omega
    obtain rfl : hi = 0 := by omega
    obtain rfl : lo = 0 := by omega
    exact .inl ⟨by simp, rfl⟩
  · simp only [Value.slice.injEq] at hv
    obtain ⟨rfl, _, rfl⟩ := hv
    by_cases hm : m = lo
    · subst hm
      obtain rfl : hi = m := by omega
      refine .inr ⟨g, o, 0, by simp, by omega, by simp [maxLen], g3, fun j u hj => ?_⟩
      have := (List.getElem?_eq_some_iff.1 hj).1
      simp at this
    · rw [if_neg hm]
      refine .inr ⟨g, o + lo * size, m - lo, by simp [addr_add], by omega, by omega, g3, fun j u hj => ?_⟩
      rw [List.getElem?_take] at hj
      split at hj
      · rw [List.getElem?_drop] at hj
        rw [Nat.add_assoc]
        exact g4 _ u hj
      · cases hj
theorem RB.piece {w : World} {a : Option Addr} {cap : Nat} {l : List UInt8} (h : RB w (.slice a l.length cap) l) {lo hi m : Nat} (h1 : lo ≤ hi) (h2 : hi ≤ l.length) (h3 : hi ≤ m) (h4 : m ≤ cap) :
    RB w (.slice (if m = lo then a else a.map (·.add (lo * 1))) (hi - lo) (m - lo)) ((l.drop lo).take (hi - lo)) := by
  have e : ((l.drop lo).take (hi - lo)).length = hi - lo := by simp; omega
  unfold RB
  rw [e]
  have := Reads.piece h h1 h2 h3 h4
  rw [Nat.mul_one, Nat.mul_one] at this
  simpa [bs, List.map_take, List.map_drop] using this
theorem RB.cap_ge {w : World} {a : Option Addr} {n cap : Nat} {l : List UInt8} (h : RB w (.slice a n cap) l) : n = l.length ∧ l.length ≤ cap := by
  rcases h.2 with ⟨hv, h0⟩ | ⟨g, o, c, hv, g1, g2, g3, g4⟩
  · simp only [Value.slice.injEq] at hv; omega
  · simp only [Value.slice.injEq] at hv; omega

theorem Owns.form {w : World} {size : Nat} {v : Value} {n : Nat} {xs : List Value} (h : Owns w size v n xs) : ∃ a c, v = .slice a n c := by
  rcases h.2 with ⟨rfl, rfl⟩ | ⟨g, o, c, rfl, _⟩
  · exact ⟨none, 0, rfl⟩
  · exact ⟨_, c, rfl⟩
theorem Reads.form {w : World} {size : Nat} {v : Value} {n : Nat} {xs : List Value} (h : Reads w size v n xs) : ∃ a c, v = .slice a n c := by
  rcases h.2 with ⟨rfl, rfl⟩ | ⟨g, o, c, rfl, _⟩
  · exact ⟨none, 0, rfl⟩
  · exact ⟨_, c, rfl⟩
theorem Owns.alloc {w : World} {size : Nat} {v : Value} {n : Nat} {xs : List Value} (h : Owns w size v n xs) (o : Obj) : Owns (w.alloc o) size v n xs := h.kept (S := fun _ => False) ((Chg.refl _ w).alloc o) (fun _ _ hf => hf)
theorem Reads.alloc {w : World} {size : Nat} {v : Value} {n : Nat} {xs : List Value} (h : Reads w size v n xs) (o : Obj) : Reads (w.alloc o) size v n xs := h.kept (S := fun _ => False) ((Chg.refl _ w).alloc o) (fun _ _ hf => hf)
/-- A new empty slice that isn't nil. -/
theorem Owns.empty (w : World) (T : TypeId) (size : Nat) : Owns (w.alloc (.cells #[] T)) size (.slice (some ⟨w.heap.size, 0, none⟩) 0 0) 0 [] :=
  ⟨by simp, .inr ⟨_, 0, 0, rfl, by simp, by simp [maxLen], by simp, by simp, by simp⟩⟩
/-- A new block of one element. -/
theorem Reads.one (w : World) (cs : List Value) (T : TypeId) : Reads (w.alloc (.cells cs.toArray T)) cs.length (.slice (some ⟨w.heap.size, 0, none⟩) 1 1) 1 cs :=
  ⟨by simp, .inr ⟨_, 0, 1, rfl, by simp, by simp [maxLen], by simp, fun j u hj => by
    rw [Nat.zero_add, World.cell?_alloc_new]; simpa using hj⟩⟩
/-- append(v, x) of one element: its block is the last one of the world. -/
theorem wpList_app_one {P : Program} {w : World} {ops : Array Oper} {rest : List Oper} {o : Oper} {a : Act} {Q : Exit → Act → World → Prop} (hgd : o.guard = none) (s x : Operand) (t : TypeId)
    (ho : o.op = .call { callee := .builtin .append, args := #[s, x], argTypes := #[t, t] })
    (e : TypeId) (z : Value) (size bytes : Nat) (ht : P.underlying t = some (.slice e)) (hi : (P.info? e).map (fun i => (i.zero, i.size, i.bytes)) = some (some z, size, bytes)) (hzs : z.cells.size = size)
    (v : Value) (n : Nat) (xs : List Value) (cs : List Value) (T : TypeId) (hs : a.eval s = v) (hy : a.eval x = .slice (some ⟨w.heap.size, 0, none⟩) 1 1) (hown : Owns w size v n xs) (hcs : cs.length = size) (h1 : ∀ u ∈ cs, u.oneCell' = true)
    (h63 : n + 1 ≤ maxLen) (hbytes : (n + 1) * bytes ≤ 140737488355328)
    (h : ∀ v' w', Owns w' size v' (n + 1) (xs ++ cs) → Chg (fun k => v.ownBlock = some k) w w' → (∀ k, v'.ownBlock = some k → v.ownBlock = some k ∨ w.heap.size ≤ k) → v' ≠ .slice none 0 0 → wpList P ops Q rest (a.put o.dst v') w') :
    wpList P ops Q (o :: rest) a (w.alloc (.cells cs.toArray T)) := by
  subst hcs
  obtain ⟨i, hi, hz0, hz1, hz2⟩ := info_parts hi
  refine wpList_app hgd s x t ho e i z _ bytes ht hi hz0 hz1 hz2 hzs v n xs hs (hown.alloc _) _ 1 cs hy (Reads.one w cs T) h1 h63 hbytes fun v' w' g1 g2 g3 g4 => ?_
  exact h v' w' g1 (((Chg.refl _ w).alloc _).trans' g2 (fun _ _ hk => hk)) (fun k hk => by rcases g3 k hk with g | g <;> simp_all) (fun hn => by simpa using g4.1 hn)
theorem OB.drewN {w : World} {v : Value} {l : List UInt8} (h : OB w v l) (n : Nat) : OB (w.drewN n) v l := h.kept (S := fun _ => False) ((Chg.refl _ w).drewN n) (fun _ _ hf => hf)
theorem RB.drewN {w : World} {v : Value} {l : List UInt8} (h : RB w v l) (n : Nat) : RB (w.drewN n) v l := h.kept (S := fun _ => False) ((Chg.refl _ w).drewN n) (fun _ _ hf => hf)
theorem OB.drew {w : World} {v : Value} {l : List UInt8} (h : OB w v l) : OB w.drew v l := h.kept (S := fun _ => False) ((Chg.refl _ w).drew) (fun _ _ hf => hf)
theorem RB.drew {w : World} {v : Value} {l : List UInt8} (h : RB w v l) : RB w.drew v l := h.kept (S := fun _ => False) ((Chg.refl _ w).drew) (fun _ _ hf => hf)
/-- n bytes 0, as make lays them. -/
def zeroRow (n : Nat) : Array Value := madeCells #[.int .u8 0] n
def zb (n : Nat) : List UInt8 := List.replicate n 0
@[simp] theorem zb_length (n : Nat) : (zb n).length = n := by simp [zb]
theorem OB.made (w : World) (n : Nat) (T : TypeId) (hn : n ≤ maxLen) : OB (w.alloc (.cells (zeroRow n) T)) (.slice (some ⟨w.heap.size, 0, none⟩) n n) (zb n) := by
  have e : (zb n).length = n := by simp
  unfold OB
  rw [e]
  refine Owns.made (heap_alloc_new w _) (by simp) (Nat.le_refl _) hn (by simp [zeroRow, size_madeCells]) (fun j u hj => ?_)
  have hj' : j < n := by simpa using (List.getElem?_eq_some_iff.1 hj).1
  rw [bs_get _ _ (by simpa using hj')] at hj
  simp only [zeroRow, madeCells]
  simp [zb] at hj
  subst hj
  have : j % 1 = 0 := Nat.mod_one j
  simp [hj', this]
theorem wp_app {P : Program} {w : World} {o : Oper} {a : Act} {K : Act → World → Prop} {Q : Exit → Act → World → Prop} (s x : Operand) (t : TypeId)
    (ho : o.op = .call { callee := .builtin .append, args := #[s, x], argTypes := #[t, t] })
    (e : TypeId) (z : Value) (size bytes : Nat) (ht : P.underlying t = some (.slice e)) (hi : (P.info? e).map (fun i => (i.zero, i.size, i.bytes)) = some (some z, size, bytes)) (hzs : z.cells.size = size)
    (v : Value) (n : Nat) (xs : List Value) (hs : a.eval s = v) (hown : Owns w size v n xs)
    (y : Value) (m : Nat) (news : List Value) (hy : a.eval x = y) (hx : Reads w size y m news) (h1 : ∀ u ∈ news, u.oneCell' = true)
    (h63 : n + m ≤ maxLen) (hbytes : (n + m) * bytes ≤ 140737488355328)
    (h : ∀ v' w', Owns w' size v' (n + m) (xs ++ news) → Chg (fun k => v.ownBlock = some k) w w' → (∀ k, v'.ownBlock = some k → v.ownBlock = some k ∨ k = w.heap.size) → (v' = .slice none 0 0 ↔ v = .slice none 0 0 ∧ m = 0) → K (a.put o.dst v') w') : o.wp P a w K Q := by
  obtain ⟨i, hi, hz0, hz1, hz2⟩ := info_parts hi
  obtain ⟨v', w', hr, h2, h3, h4, h5⟩ := run_app (P := P) w t o.type e i z size bytes ht hi hz0 hz1 hz2 hzs v n xs hown y m news hx h1 h63 hbytes
  unfold Oper.wp execOp
  simp only [ho, resolve, invoke, builtin, Sem.run_bind, Sem.run_pure, Result.andThen_ok, List.map_toArray, List.map_cons, List.map_nil, hs, hy, hr]
  exact h v' w' h2 h3 h4 h5

/-- The beginning of a row of the call's own, its room cut at m. -/
theorem Owns.front {w : World} {size : Nat} {a : Option Addr} {len cap : Nat} {xs : List Value} (h : Owns w size (.slice a len cap) len xs) {hi m : Nat} (h2 : hi ≤ len) (h3 : hi ≤ m) (h4 : m ≤ cap) :
    Owns w size (.slice a hi m) hi (xs.take (hi * size)) := by
  have hlen : (xs.take (hi * size)).length = hi * size := by
    rw [List.length_take, h.1]
    exact Nat.min_eq_left (Nat.mul_le_mul_right size h2)
  refine ⟨hlen, ?_⟩
  rcases h.2 with ⟨hv, h0⟩ | ⟨g, o, c, hv, g1, g2, g3, g4, g5⟩
  · simp only [Value.slice.injEq] at hv
    obtain ⟨rfl, rfl, rfl⟩ := hv
    obtain rfl : m = 0 := by omega
    obtain rfl : hi = 0 := by omega
    exact .inl ⟨rfl, rfl⟩
  · simp only [Value.slice.injEq] at hv
    obtain ⟨rfl, _, rfl⟩ := hv
    refine .inr ⟨g, o, m, rfl, by omega, by omega, g3, fun j u hj => ?_, fun i hi' => g5 i (Nat.lt_of_lt_of_le hi' (Nat.mul_le_mul_right size h4))⟩
    rw [List.getElem?_take] at hj
    split at hj
    · exact g4 j u hj
    · cases hj
theorem Reads.drop {w : World} {size : Nat} {a : Option Addr} {len cap : Nat} {xs : List Value} (h : Reads w size (.slice a len cap) len xs) {lo : Nat} (h1 : lo ≤ len) (h4 : len ≤ cap) :
    Reads w size (.slice (if cap = lo then a else a.map (·.add (lo * size))) (len - lo) (cap - lo)) (len - lo) (xs.drop (lo * size)) := by
  have := h.piece h1 (Nat.le_refl _) h4 (Nat.le_refl cap)
  rwa [List.take_of_length_le (by rw [List.length_drop, h.1, Nat.sub_mul]; exact Nat.le_refl _)] at this
theorem Owns.cap_ge {w : World} {size : Nat} {a : Option Addr} {n cap m : Nat} {xs : List Value} (h : Owns w size (.slice a n cap) m xs) : n = m ∧ m ≤ cap := by
  rcases h.2 with ⟨hv, h0⟩ | ⟨g, o, c, hv, g1, g2, g3, g4⟩
  · simp only [Value.slice.injEq] at hv; omega
  · simp only [Value.slice.injEq] at hv; omega
/-- Cells inside it are written. -/
theorem Owns.set {w : World} {size : Nat} {g o n cap : Nat} {xs : List Value} (h : Owns w size (.slice (some ⟨g, o, none⟩) n cap) n xs) (p : Nat) (cs : List Value) (hp : p + cs.length ≤ n * size) :
    Owns (w.setCells g (o + p) cs) size (.slice (some ⟨g, o, none⟩) n cap) n (xs.take p ++ cs ++ xs.drop (p + cs.length)) := by
  have hl := h.1
  refine ⟨by simp only [List.length_append, List.length_take, List.length_drop]; omega, ?_⟩
  rcases h.2 with ⟨hv, _⟩ | ⟨g', o', c, hv, g1, g2, g3, g4, g5⟩
  · simp at hv
  · simp only [Value.slice.injEq, Option.some.injEq, Addr.mk.injEq, true_and, and_true] at hv
    obtain ⟨⟨rfl, rfl⟩, rfl⟩ := hv
    have hcap : n * size ≤ cap * size := Nat.mul_le_mul_right size g1
    have hin : ∀ j, j < cs.length → (w.cell? ⟨g, o + p + j, none⟩).isSome = true := fun j hj => by
      have := (g5 (p + j) (by omega)).1
      rwa [← Nat.add_assoc] at this
    refine .inr ⟨g, o, cap, rfl, g1, g2, by rw [size_setCells]; exact g3, fun j u hj => ?_, fun i hi => ⟨?_, ?_⟩⟩
    · have hjl := (List.getElem?_eq_some_iff.1 hj).1
      simp only [List.length_append, List.length_take, List.length_drop] at hjl
      by_cases h1 : j < p
      · rw [World.cell?_setCells_out _ _ _ _ _ (fun _ _ => by simp; omega)]
        rw [List.append_assoc, List.getElem?_append_left (by simp; omega), List.getElem?_take, if_pos h1] at hj
        exact g4 j u hj
      · by_cases h2 : j < p + cs.length
        · rw [show o + j = o + p + (j - p) by omega, World.cell?_setCells_in g cs (o + p) w hin (j - p) (by omega)]
          rw [List.getElem?_append_left (by simp; omega), List.getElem?_append_right (by simp; omega)] at hj
          simp only [List.length_take] at hj
          rw [show j - min p xs.length = j - p by omega, List.getElem?_eq_getElem (by omega)] at hj
          exact hj
        · rw [World.cell?_setCells_out _ _ _ _ _ (fun _ _ => by simp; omega)]
          rw [List.getElem?_append_right (by simp; omega)] at hj
          simp only [List.length_append, List.length_take, List.getElem?_drop] at hj
          rw [show p + cs.length + (j - (min p xs.length + cs.length)) = j by omega] at hj
          exact g4 j u hj
    · by_cases h1 : p ≤ i ∧ i < p + cs.length
      · rw [show o + i = o + p + (i - p) by omega, World.cell?_setCells_in g cs (o + p) w hin (i - p) (by omega)]; rfl
      · rw [World.cell?_setCells_out _ _ _ _ _ (fun _ _ => by simp; omega)]
        exact (g5 i hi).1
    · rw [World.frozen?_setCells]; exact (g5 i hi).2
end Go.Cat
