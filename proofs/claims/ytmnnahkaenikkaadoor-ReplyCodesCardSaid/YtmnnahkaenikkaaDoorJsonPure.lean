/- JSON values as trees: their text, and how they lie in memory. -/
import Derived.Test.YtmnnahkaenikkaaDoorArr
import Derived.Lib.ItoaNum
import Derived.Lib.Small
import Derived.Lib.Join
namespace Go.Cat
open Go.RowKit

inductive JV where
  | null
  | bool (b : Bool)
  | num (n : Int)
  | text (s : List UInt8)
  | row (l : List JV)
  | thing (ns : List (List UInt8)) (l : List JV)

/-- A half's sign. -/
def hexd (x : Nat) : UInt8 := UInt8.ofNat (if x < 10 then 48 + x else 87 + x)
/-- A byte in quotes. -/
def quoteB (c : UInt8) : List UInt8 :=
  if c = 34 ∨ c = 92 then [92, c]
  else if c < 32 ∨ 126 < c then [92, 117, 48, 48, hexd (c.toNat / 16), hexd (c.toNat % 16)]
  else [c]
def quoteT (s : List UInt8) : List UInt8 := 34 :: (s.flatMap quoteB ++ [34])
/-- Names and values, with a colon between. -/
def namedT : List (List UInt8) → List (List UInt8) → List (List UInt8)
  | n :: ns, t :: ts => (quoteT n ++ 58 :: t) :: namedT ns ts
  | _, _ => []

mutual
def JV.txt : JV → List UInt8
  | .null => [110, 117, 108, 108]
  | .bool b => Lib.formatBool b
  | .num n => Lib.itoa n
  | .text s => quoteT s
  | .row l => 91 :: (Lib.join (JV.txts l) [44] ++ [93])
  | .thing ns l => 123 :: (Lib.join (namedT ns (JV.txts l)) [44] ++ [125])
def JV.txts : List JV → List (List UInt8)
  | [] => []
  | x :: r => x.txt :: JV.txts r
end

mutual
def JV.size : JV → Nat
  | .null => 1
  | .bool _ => 1
  | .num _ => 1
  | .text _ => 1
  | .row l => JV.sizes l + 1
  | .thing _ l => JV.sizes l + 1
def JV.sizes : List JV → Nat
  | [] => 0
  | x :: r => x.size + JV.sizes r
end

mutual
/-- The numbers are ones that an int64 holds. -/
def JV.ok : JV → Prop
  | .null => True
  | .bool _ => True
  | .num n => -9223372036854775808 ≤ n ∧ n ≤ 9223372036854775807
  | .text _ => True
  | .row l => JV.oks l
  | .thing ns l => ns.length = l.length ∧ JV.oks l
def JV.oks : List JV → Prop
  | [] => True
  | x :: r => x.ok ∧ JV.oks r
end

def one (cs : List Value) : Prop := ∀ u ∈ cs, u.oneCell' = true
mutual
/-- The six cells of a json.Value. -/
def JV.Rep (w : World) : JV → List Value → Prop
  | .null, cs => one cs ∧ ∃ b n t r h, cs = [.int .i64 0, b, n, t, r, h]
  | .bool x, cs => one cs ∧ ∃ n t r h, cs = [.int .i64 1, .bool x, n, t, r, h]
  | .num x, cs => one cs ∧ ∃ b t r h, cs = [.int .i64 2, b, .int .i64 x, t, r, h]
  | .text s, cs => one cs ∧ ∃ b n r h, cs = [.int .i64 3, b, n, .string ⟨s.toArray⟩, r, h]
  | .row l, cs => one cs ∧ ∃ b n t v h xs, cs = [.int .i64 4, b, n, t, v, h] ∧ Reads w 6 v l.length xs ∧ JV.RepL w l xs
  | .thing ns l, cs => one cs ∧ ∃ b n t r v xs, cs = [.int .i64 5, b, n, t, r, v] ∧ Reads w 7 v l.length xs ∧ JV.RepP w l ns xs
/-- Values one behind another. -/
def JV.RepL (w : World) : List JV → List Value → Prop
  | [], xs => xs = []
  | x :: r, xs => x.Rep w (xs.take 6) ∧ JV.RepL w r (xs.drop 6)
/-- Pairs one behind another. -/
def JV.RepP (w : World) : List JV → List (List UInt8) → List Value → Prop
  | [], ns, xs => ns = [] ∧ xs = []
  | x :: r, ns, xs => ∃ n ns', ns = n :: ns' ∧ xs.take 1 = [.string ⟨n.toArray⟩] ∧ x.Rep w ((xs.drop 1).take 6) ∧ JV.RepP w r ns' (xs.drop 7)
end

theorem JV.Rep.len {w : World} : ∀ {j : JV} {cs : List Value}, j.Rep w cs → cs.length = 6 ∧ one cs
  | .null, cs, h => by simp only [JV.Rep] at h; obtain ⟨h0, _, _, _, _, _, rfl⟩ := h; exact ⟨rfl, h0⟩
  | .bool x, cs, h => by simp only [JV.Rep] at h; obtain ⟨h0, _, _, _, _, rfl⟩ := h; exact ⟨rfl, h0⟩
  | .num x, cs, h => by simp only [JV.Rep] at h; obtain ⟨h0, _, _, _, _, rfl⟩ := h; exact ⟨rfl, h0⟩
  | .text s, cs, h => by simp only [JV.Rep] at h; obtain ⟨h0, _, _, _, _, rfl⟩ := h; exact ⟨rfl, h0⟩
  | .row l, cs, h => by simp only [JV.Rep] at h; obtain ⟨h0, _, _, _, _, _, _, rfl, _⟩ := h; exact ⟨rfl, h0⟩
  | .thing ns l, cs, h => by simp only [JV.Rep] at h; obtain ⟨h0, _, _, _, _, _, _, rfl, _⟩ := h; exact ⟨rfl, h0⟩
theorem JV.txts_len : ∀ l : List JV, (JV.txts l).length = l.length
  | [] => by simp [JV.txts]
  | x :: r => by simp [JV.txts, JV.txts_len r]
theorem JV.txts_get : ∀ (l : List JV) (i : Nat), (JV.txts l)[i]? = l[i]?.map JV.txt
  | [], i => by simp [JV.txts]
  | x :: r, 0 => by simp [JV.txts]
  | x :: r, i + 1 => by simp [JV.txts, JV.txts_get r i]
theorem JV.size_lt : ∀ (l : List JV) (i : Nat) (x : JV), l[i]? = some x → x.size ≤ JV.sizes l
  | [], i, x, h => by simp at h
  | y :: r, 0, x, h => by simp at h; subst h; simp [JV.sizes]
  | y :: r, i + 1, x, h => by
    have := JV.size_lt r i x (by simpa using h)
    simp [JV.sizes]; omega
theorem JV.oks_get : ∀ (l : List JV) (i : Nat) (x : JV), JV.oks l → l[i]? = some x → x.ok
  | [], i, x, _, h => by simp at h
  | y :: r, 0, x, ho, h => by simp at h; subst h; exact (by simpa [JV.oks] using ho : _ ∧ _).1
  | y :: r, i + 1, x, ho, h => JV.oks_get r i x (by simpa [JV.oks] using ho : _ ∧ _).2 (by simpa using h)
theorem JV.repL_get (w : World) : ∀ (l : List JV) (xs : List Value) (i : Nat) (x : JV), JV.RepL w l xs → l[i]? = some x → x.Rep w ((xs.drop (i * 6)).take 6)
  | [], xs, i, x, _, h => by simp at h
  | y :: r, xs, 0, x, ho, h => by simp at h; subst h; simpa [JV.RepL] using (by simpa [JV.RepL] using ho : _ ∧ _).1
  | y :: r, xs, i + 1, x, ho, h => by
    have := JV.repL_get w r (xs.drop 6) i x (by simpa [JV.RepL] using ho : _ ∧ _).2 (by simpa using h)
    rw [List.drop_drop] at this
    rw [show (i + 1) * 6 = 6 + i * 6 by omega]; exact this
theorem JV.repP_get (w : World) : ∀ (l : List JV) (ns : List (List UInt8)) (xs : List Value) (i : Nat) (x : JV), JV.RepP w l ns xs → l[i]? = some x →
    ∃ n, ns[i]? = some n ∧ (xs.drop (i * 7)).take 1 = [.string ⟨n.toArray⟩] ∧ x.Rep w ((xs.drop (i * 7 + 1)).take 6)
  | [], ns, xs, i, x, _, h => by simp at h
  | y :: r, ns, xs, 0, x, ho, h => by
    obtain ⟨n, ns', rfl, h1, h2, _⟩ := (by simpa only [JV.RepP] using ho : ∃ n ns', ns = n :: ns' ∧ _ ∧ _ ∧ _)
    simp at h; subst h
    exact ⟨n, rfl, by simpa using h1, by simpa using h2⟩
  | y :: r, ns, xs, i + 1, x, ho, h => by
    obtain ⟨n, ns', rfl, _, _, h3⟩ := (by simpa only [JV.RepP] using ho : ∃ n ns', ns = n :: ns' ∧ _ ∧ _ ∧ _)
    obtain ⟨m, k1, k2, k3⟩ := JV.repP_get w r ns' (xs.drop 7) i x h3 (by simpa using h)
    rw [List.drop_drop] at k2 k3
    refine ⟨m, by simpa using k1, ?_, ?_⟩
    · rw [show (i + 1) * 7 = 7 + i * 7 by omega]; exact k2
    · rw [show (i + 1) * 7 + 1 = 7 + (i * 7 + 1) by omega]; exact k3
theorem JV.repP_len (w : World) : ∀ (l : List JV) (ns : List (List UInt8)) (xs : List Value), JV.RepP w l ns xs → ns.length = l.length
  | [], ns, xs, h => by obtain ⟨rfl, _⟩ := (by simpa only [JV.RepP] using h : ns = [] ∧ _); rfl
  | x :: r, ns, xs, h => by
    obtain ⟨n, ns', rfl, _, _, h3⟩ := (by simpa only [JV.RepP] using h : ∃ n ns', ns = n :: ns' ∧ _ ∧ _ ∧ _)
    simp [JV.repP_len w r ns' _ h3]

mutual
/-- What is old stands: so the tree does. -/
theorem JV.Rep.same {w w' : World} (c : Chg (fun _ => False) w w') : ∀ (j : JV) (cs : List Value), j.Rep w cs → j.Rep w' cs
  | .null, cs, h => by simpa only [JV.Rep] using h
  | .bool x, cs, h => by simpa only [JV.Rep] using h
  | .num x, cs, h => by simpa only [JV.Rep] using h
  | .text s, cs, h => by simpa only [JV.Rep] using h
  | .row l, cs, h => by
    simp only [JV.Rep] at h ⊢
    obtain ⟨h0, b, n, t, v, hh, xs, h1, h2, h3⟩ := h
    exact ⟨h0, b, n, t, v, hh, xs, h1, h2.kept c (fun _ _ hf => hf), JV.RepL.same c l xs h3⟩
  | .thing ns l, cs, h => by
    simp only [JV.Rep] at h ⊢
    obtain ⟨h0, b, n, t, v, hh, xs, h1, h2, h3⟩ := h
    exact ⟨h0, b, n, t, v, hh, xs, h1, h2.kept c (fun _ _ hf => hf), JV.RepP.same c l ns xs h3⟩
theorem JV.RepL.same {w w' : World} (c : Chg (fun _ => False) w w') : ∀ (l : List JV) (xs : List Value), JV.RepL w l xs → JV.RepL w' l xs
  | [], xs, h => by simpa only [JV.RepL] using h
  | x :: r, xs, h => by
    simp only [JV.RepL] at h ⊢
    exact ⟨JV.Rep.same c x _ h.1, JV.RepL.same c r _ h.2⟩
theorem JV.RepP.same {w w' : World} (c : Chg (fun _ => False) w w') : ∀ (l : List JV) (ns : List (List UInt8)) (xs : List Value), JV.RepP w l ns xs → JV.RepP w' l ns xs
  | [], ns, xs, h => by simpa only [JV.RepP] using h
  | x :: r, ns, xs, h => by
    simp only [JV.RepP] at h ⊢
    obtain ⟨n, ns', h1, h2, h3, h4⟩ := h
    exact ⟨n, ns', h1, h2, JV.Rep.same c x _ h3, JV.RepP.same c r ns' _ h4⟩
end
theorem lens_mem (xs : List (List UInt8)) (x : List UInt8) (h : x ∈ xs) : x.length ≤ Lib.lens xs := by
  induction xs with
  | nil => simp at h
  | cons y r ih =>
    rcases List.mem_cons.1 h with rfl | h
    · simp [Lib.lens]
    · have := ih h; simp only [Lib.lens, List.map_cons, List.sum_cons] at this ⊢; omega
theorem join_mem (xs : List (List UInt8)) (x : List UInt8) (h : x ∈ xs) : x.length ≤ (Lib.join xs [44]).length ∧ xs.length ≤ (Lib.join xs [44]).length + 1 := by
  cases xs with
  | nil => simp at h
  | cons y r =>
    rw [Lib.join_length]
    have := lens_mem _ _ h
    simp only [List.length_cons, List.length_nil]
    omega
theorem join_count (xs : List (List UInt8)) : xs.length ≤ (Lib.join xs [44]).length + 1 := by
  cases xs with
  | nil => simp
  | cons y r => exact (join_mem _ y (List.mem_cons_self ..)).2
theorem namedT_get : ∀ (ns ts : List (List UInt8)) (i : Nat) (n t : List UInt8), ns[i]? = some n → ts[i]? = some t → (namedT ns ts)[i]? = some (quoteT n ++ 58 :: t)
  | [], _, i, n, t, h, _ => by simp at h
  | _ :: _, [], i, n, t, _, h => by simp at h
  | a :: ns, b :: ts, 0, n, t, h, k => by simp at h k; subst h; subst k; simp [namedT]
  | a :: ns, b :: ts, i + 1, n, t, h, k => by simpa [namedT] using namedT_get ns ts i n t (by simpa using h) (by simpa using k)
theorem namedT_len : ∀ (ns ts : List (List UInt8)), ns.length = ts.length → (namedT ns ts).length = ts.length
  | [], [], _ => rfl
  | [], _ :: _, h => by simp at h
  | _ :: _, [], h => by simp at h
  | a :: ns, b :: ts, h => by simp [namedT, namedT_len ns ts (by simpa using h)]
theorem row_bound {l : List JV} {i : Nat} {x : JV} (h : l[i]? = some x) : x.txt.length ≤ (Lib.join (JV.txts l) [44]).length := by
  refine (join_mem _ _ ?_).1
  exact List.mem_of_getElem? (by rw [JV.txts_get, h]; rfl : (JV.txts l)[i]? = some x.txt)
theorem thing_bound {ns : List (List UInt8)} {l : List JV} {i : Nat} {n : List UInt8} {x : JV} (hn : ns[i]? = some n) (h : l[i]? = some x) : (quoteT n).length + x.txt.length + 1 ≤ (Lib.join (namedT ns (JV.txts l)) [44]).length := by
  have := (join_mem (namedT ns (JV.txts l)) _ (List.mem_of_getElem? (namedT_get ns _ i n x.txt hn (by rw [JV.txts_get, h]; rfl)))).1
  simp only [List.length_append, List.length_cons] at this
  omega
theorem quoteT_ge (s : List UInt8) : s.length + 2 ≤ (quoteT s).length := by
  have one : ∀ c, 1 ≤ (quoteB c).length := fun c => by unfold quoteB; split; · simp
                                                       · split <;> simp
  have : s.length ≤ (s.flatMap quoteB).length := by
    induction s with
    | nil => simp
    | cons c r ih => have := one c; simp only [List.flatMap_cons, List.length_append, List.length_cons]; omega
  simp only [quoteT, List.length_cons, List.length_append, List.length_nil]; omega
end Go.Cat
