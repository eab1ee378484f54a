/- Points, and where a tick is. -/
import Derived.Test.YtmnnahkaenikkaaProg
import Derived.Test.YtmnnahkaenikkaaArr
import Derived.Test.YtmnnahkaenikkaaT
import Derived.WalkSpells
import Derived.WalkLawsBesides
import Derived.Handy
import Derived.Lib.SliceRun
import Derived.Laws.Shifts
namespace Go.Proofs.Ytmnnahkaenikkaa
open Go.RowKit Go.Cat
structure Pt where
  tk : Int
  val : Int
deriving DecidableEq
def Pt.cells (p : Pt) : List Value := [.int .i64 p.tk, .int .i64 p.val]
@[simp] theorem Pt.cells_length (p : Pt) : p.cells.length = 2 := rfl
def Sorted (l : List Pt) : Prop := l.Pairwise fun a b => a.tk < b.tk
def below (l : List Pt) (a : Int) : List Pt := l.filter fun p => decide (p.tk < a)
def upon (l : List Pt) (a : Int) : List Pt := l.filter fun p => decide (a ≤ p.tk)
def lb (l : List Pt) (a : Int) : Nat := (below l a).length
theorem sorted_split : ∀ {l : List Pt}, Sorted l → ∀ a, l = below l a ++ upon l a
  | [], _, _ => rfl
  | p :: r, h, a => by
    have hr := List.pairwise_cons.1 h
    by_cases hp : p.tk < a
    · have e := sorted_split hr.2 a
      have hn : ¬ a ≤ p.tk := by omega
      simp only [below, upon, List.filter_cons, hp, hn, decide_true, decide_false, if_true, Bool.false_eq_true, if_false] at e ⊢
      rw [List.cons_append, ← e]
    · have hn : a ≤ p.tk := by omega
      have h1 : below (p :: r) a = [] := by
        unfold below
        refine List.filter_eq_nil_iff.2 fun q hq => ?_
        rcases List.mem_cons.1 hq with rfl | hq
        · simp; omega
        · have := hr.1 q hq; simp; omega
      have h2 : upon (p :: r) a = p :: r := by
        unfold upon
        refine List.filter_eq_self.2 fun q hq => ?_
        rcases List.mem_cons.1 hq with rfl | hq
        · simp; omega
        · have := hr.1 q hq; simp; omega
      rw [h1, h2]; rfl
theorem lb_le (l : List Pt) (a : Int) : lb l a ≤ l.length := List.length_filter_le _ _
theorem take_lb {l : List Pt} (h : Sorted l) (a : Int) : l.take (lb l a) = below l a := by
  have e := sorted_split h a
  have h2 : (below l a ++ upon l a).take (lb l a) = below l a := List.take_left' rfl
  rwa [← e] at h2
theorem drop_lb {l : List Pt} (h : Sorted l) (a : Int) : l.drop (lb l a) = upon l a := by
  have e := sorted_split h a
  have h2 : (below l a ++ upon l a).drop (lb l a) = upon l a := List.drop_left' rfl
  rwa [← e] at h2
theorem lb_at {l : List Pt} (h : Sorted l) {a : Int} {i : Nat} {p : Pt} (hp : l[i]? = some p) : p.tk < a ↔ i < lb l a := by
  have hi := (List.getElem?_eq_some_iff.1 hp).1
  constructor
  · intro hlt
    refine Classical.byContradiction fun hc => ?_
    have : (l.drop (lb l a))[i - lb l a]? = some p := by rw [List.getElem?_drop]; rw [show lb l a + (i - lb l a) = i by omega]; exact hp
    rw [drop_lb h] at this
    have hm := List.mem_of_getElem? this
    have := (List.mem_filter.1 hm).2
    simp at this; omega
  · intro hlt
    have : (l.take (lb l a))[i]? = some p := by rw [List.getElem?_take_of_lt hlt]; exact hp
    rw [take_lb h] at this
    have hm := List.mem_of_getElem? this
    have := (List.mem_filter.1 hm).2
    simpa using this
def has (l : List Pt) (a : Int) : Bool := l.any fun p => decide (p.tk = a)
theorem has_at {l : List Pt} (h : Sorted l) {a : Int} {p : Pt} (hp : l[lb l a]? = some p) : has l a = decide (p.tk = a) := by
  have h1 : ¬ p.tk < a := fun hc => by have := (lb_at h hp).1 hc; omega
  by_cases he : p.tk = a
  · rw [decide_eq_true he]
    exact List.any_eq_true.2 ⟨p, List.mem_of_getElem? hp, by simpa using he⟩
  · rw [decide_eq_false he]
    refine Bool.eq_false_iff.2 fun hc => ?_
    obtain ⟨q, hq, hqa⟩ := List.any_eq_true.1 hc
    have hqa : q.tk = a := by simpa using hqa
    obtain ⟨j, hj⟩ := List.getElem?_of_mem hq
    have h2 : ¬ q.tk < a := by omega
    have h3 : ¬ j < lb l a := fun h4 => h2 ((lb_at h hj).2 h4)
    have hjl := (List.getElem?_eq_some_iff.1 hj).1
    have hil := (List.getElem?_eq_some_iff.1 hp).1
    rcases Nat.lt_or_ge (lb l a) j with h5 | h5
    · have := List.pairwise_iff_getElem.1 h (lb l a) j hil hjl h5
      rw [(List.getElem?_eq_some_iff.1 hp).2, (List.getElem?_eq_some_iff.1 hj).2] at this
      omega
    · have : j = lb l a := by omega
      rw [this, hp] at hj
      exact he (by injection hj with hj; rw [hj]; exact hqa)
theorem has_end {l : List Pt} (h : Sorted l) {a : Int} (hp : lb l a = l.length) : has l a = false := by
  refine Bool.eq_false_iff.2 fun hc => ?_
  obtain ⟨q, hq, hqa⟩ := List.any_eq_true.1 hc
  have hqa : q.tk = a := by simpa using hqa
  obtain ⟨j, hj⟩ := List.getElem?_of_mem hq
  have hjl := (List.getElem?_eq_some_iff.1 hj).1
  have := (lb_at h hj).2 (by omega : j < lb l a)
  omega
set_option maxRecDepth 100000 in
theorem cmp_c (w : World) (p : Pt) (a : Int) :
    Calls Try.prog 91 #[.agg #[.int .i64 p.tk, .int .i64 p.val], .int .i64 a] w fun e w' => e = .returned (.int .i64 (if p.tk < a then -1 else if a < p.tk then 1 else 0)) ∧ Chg (fun _ => False) w w' := by
  have c1 : Chg (fun _ => False) w (w.alloc (.cells #[.int .i64 p.tk, .int .i64 p.val] 32)) := (Chg.refl _ w).alloc _
  have C1 := Lib.hid c1
  clear c1
  by_cases h1 : p.tk < a
  · rw [if_pos h1]
    go_enter Try.func91, Try.ntmps91
    go_wp2_with fail
    go_ret
    exact ⟨rfl, C1.out⟩
  · rw [if_neg h1]
    by_cases h2 : a < p.tk
    · rw [if_pos h2]
      go_enter Try.func91, Try.ntmps91
      go_wp2_with fail
      go_ret
      exact ⟨rfl, C1.out⟩
    · rw [if_neg h2]
      go_enter Try.func91, Try.ntmps91
      go_wp2_with fail
      go_ret
      exact ⟨rfl, C1.out⟩
theorem at_lt {α : Type} {l : List α} {i : Nat} (h : i < l.length) : ∃ x, l[i]? = some x := ⟨_, List.getElem?_eq_getElem h⟩
theorem reads_some {w : World} {s n c : Nat} {a : Option Addr} {xs : List Value} (h : Reads w s (.slice a n c) n xs) (hn : 0 < n) : ∃ g o, a = some ⟨g, o, none⟩ ∧ n ≤ c ∧ g < w.heap.size ∧ ∀ j u, xs[j]? = some u → w.cell? ⟨g, o + j, none⟩ = some u := by
  rcases h.2 with ⟨hv, h0⟩ | ⟨g, o, c', hv, h1, _, h2, h3⟩
  · omega
  · simp only [Value.slice.injEq, true_and] at hv
    obtain ⟨rfl, rfl⟩ := hv
    exact ⟨g, o, rfl, h1, h2, h3⟩
theorem load_pt (w : World) {l : List Pt} {g o i : Nat} {p : Pt} (hc : ∀ j u, (l.flatMap Pt.cells)[j]? = some u → w.cell? ⟨g, o + j, none⟩ = some u) (hp : l[i]? = some p) :
    (Instr.loadAt 32 (.pointer (some ⟨g, o + i * 2, none⟩))).run Try.prog w = .ok (.agg #[.int .i64 p.tk, .int .i64 p.val]) w := by
  refine run_loadAt_agg w _ _ g (o + i * 2) p.cells Try.underlying32 rfl (by kernel_rfl) fun j u hj => ?_
  have hj2 : j < 2 := (List.getElem?_eq_some_iff.1 hj).1
  rw [Nat.add_assoc]
  refine hc _ u ?_
  rw [rows_at l (s := 2) (f := Pt.cells) (fun _ _ => rfl) i j p hp hj2]
  exact hj
theorem pt_cells {w : World} {l : List Pt} {g o i : Nat} {p : Pt} (hc : ∀ j u, (l.flatMap Pt.cells)[j]? = some u → w.cell? ⟨g, o + j, none⟩ = some u) (hp : l[i]? = some p) :
    w.cell? ⟨g, o + i * 2, none⟩ = some (.int .i64 p.tk) ∧ w.cell? ⟨g, o + i * 2 + 1, none⟩ = some (.int .i64 p.val) := by
  have h0 := rows_at l (s := 2) (f := Pt.cells) (fun _ _ => rfl) i 0 p hp (by omega)
  have h1 := rows_at l (s := 2) (f := Pt.cells) (fun _ _ => rfl) i 1 p hp (by omega)
  exact ⟨hc (i * 2) _ h0, by rw [Nat.add_assoc]; exact hc (i * 2 + 1) _ h1⟩
set_option maxRecDepth 100000 in
set_option maxHeartbeats 1000000 in
theorem bsearch_c (w : World) (v : Value) (l : List Pt) (a : Int) (h : Reads w 2 v l.length (l.flatMap Pt.cells)) (hs : Sorted l) (hl : l.length ≤ 1000000) :
    Calls Try.prog 90 #[v, .int .i64 a, .func (.func 91) #[] #[]] w fun e w' => e = .returned (.tuple #[.int .i64 (lb l a), .bool (has l a)]) ∧ Chg (fun _ => False) w w' := by
  obtain ⟨va, vc, rfl⟩ := h.form
  obtain ⟨n, hn⟩ : ∃ n, n = l.length := ⟨_, rfl⟩
  rw [← hn] at h hl ⊢
  have H := Lib.hid h
  have HN := Lib.hid hn
  have HS := Lib.hid hs
  have hlb : lb l a ≤ n := by rw [hn]; exact lb_le l a
  obtain ⟨q, hq⟩ : ∃ q, q = lb l a := ⟨_, rfl⟩
  have HQ := Lib.hid hq
  obtain ⟨b, hb⟩ : ∃ b, b = has l a := ⟨_, rfl⟩
  have HB := Lib.hid hb
  rw [← hq] at hlb ⊢
  rw [← hb]
  clear h hs hn hq hb
  go_enter Try.func90, Try.ntmps90
  go_wp2_with fail
  go_loopw [9, 10] (fun ci cj wr => ∃ i j : Nat, i ≤ q ∧ q ≤ j ∧ j ≤ n ∧ ci = .int .i64 i ∧ cj = .int .i64 j ∧ Hid (Chg (fun _ => False) w wr)) (fun ci cj _ => (intOf cj).toNat - (intOf ci).toNat)
  case atStart => exact ⟨0, n, by omega, by omega, by omega, rfl, rfl, Chg.refl _ _⟩
  case round =>
    obtain ⟨i, j, hi, hj, hjn, rfl, rfl, hc⟩ := hrel
    by_cases hij : i < j
    · obtain ⟨p, hp⟩ := at_lt (show (i + j) / 2 < l.length by rw [← HN.out]; omega)
      obtain ⟨g, o, rfl, h1, h2, h3⟩ := reads_some H.out (by omega)
      have hld := load_pt wr (fun j u hj => hc.out.cell (h3 j u hj) (fun h => h)) hp
      have CM := Lib.hid (cmp_c wr p a)
      have hlt := lb_at HS.out (a := a) hp
      rw [← HQ.out] at hlt
      have HLT := Lib.hid hlt
      have HC := Lib.hid hc.out
      clear h1 h2 h3 hlt hp hc
      by_cases hpa : p.tk < a
      · rw [if_pos hpa] at CM
        have hmq := HLT.out.1 hpa
        clear hpa
        go_wp2_with (first | refine wpList_load rfl 32 _ rfl _ _ rfl hld ?_)
        refine CM.out.mono ?_
        rintro e w2 ⟨rfl, c2⟩
        have C2 := Lib.hid (HC.out.trans c2)
        clear c2 hld
        go_wp2_with fail
        exact ⟨⟨(i + j) / 2 + 1, j, by omega, hj, hjn, congrArg _ (by omega), rfl, C2.out⟩, by simp only [intOf]; omega⟩
      · have hmq : ¬ (i + j) / 2 < q := fun h => hpa (HLT.out.2 h)
        have hx : (0 : Int) ≤ (if p.tk < a then -1 else if a < p.tk then 1 else 0) := by rw [if_neg hpa]; split <;> omega
        generalize (if p.tk < a then -1 else if a < p.tk then 1 else 0 : Int) = x at CM hx
        clear hpa
        go_wp2_with (first | refine wpList_load rfl 32 _ rfl _ _ rfl hld ?_)
        refine CM.out.mono ?_
        rintro e w2 ⟨rfl, c2⟩
        have C2 := Lib.hid (HC.out.trans c2)
        clear c2 hld
        go_wp2_with fail
        exact ⟨⟨i, (i + j) / 2, hi, by omega, by omega, rfl, congrArg _ (by omega), C2.out⟩, by simp only [intOf]; omega⟩
    · obtain rfl : i = q := by omega
      obtain rfl : j = i := by omega
      by_cases hin : j < n
      · obtain ⟨p, hp⟩ := at_lt (show j < l.length by rw [← HN.out]; omega)
        obtain ⟨g, o, rfl, h1, h2, h3⟩ := reads_some H.out (by omega)
        obtain ⟨q0, q1⟩ := pt_cells (fun j u hj => hc.out.cell (h3 j u hj) (fun h => h)) hp
        have CM := Lib.hid (cmp_c wr p a)
        have hlt := lb_at HS.out (a := a) hp
        have hha : has l a = decide (p.tk = a) := has_at HS.out (by rw [← HQ.out]; exact hp)
        rw [← HQ.out] at hlt
        have h6 : ¬ p.tk < a := fun h => by have := hlt.1 h; omega
        have HC := Lib.hid hc.out
        rw [if_neg h6] at CM
        have h7 : p.tk = a ∨ a < p.tk := by omega
        clear hlt h6 h1 h2 h3 hp hc
        by_cases he : p.tk = a
        · rw [if_neg (by omega)] at CM
          rw [decide_eq_true he] at hha
          have HH := Lib.hid hha
          clear he hha
          go_wp2_with fail
          refine CM.out.mono ?_
          rintro e w2 ⟨rfl, c2⟩
          have C2 := Lib.hid (HC.out.trans c2)
          clear c2 q0 q1
          go_wp2_with fail
          go_ret2
          exact ⟨by rw [HB.out, HH.out]; rfl, C2.out⟩
        · rw [if_pos (by omega)] at CM
          rw [decide_eq_false he] at hha
          have HH := Lib.hid hha
          clear he hha
          go_wp2_with fail
          refine CM.out.mono ?_
          rintro e w2 ⟨rfl, c2⟩
          have C2 := Lib.hid (HC.out.trans c2)
          clear c2 q0 q1
          go_wp2_with fail
          go_ret2
          exact ⟨by rw [HB.out, HH.out]; rfl, C2.out⟩
      · obtain rfl : j = n := by omega
        have hha : has l a = false := has_end HS.out (by rw [← HQ.out]; exact HN.out)
        have HH := Lib.hid hha
        have HC := Lib.hid hc.out
        clear hc hha
        go_wp2_with fail
        go_ret2
        exact ⟨by rw [HB.out, HH.out]; rfl, HC.out⟩
set_option maxRecDepth 100000 in
theorem find_c (w : World) (v : Value) (l : List Pt) (a : Int) (h : Reads w 2 v l.length (l.flatMap Pt.cells)) (hs : Sorted l) (hl : l.length ≤ 1000000) :
    Calls Try.prog 83 #[v, .int .i64 a] w fun e w' => e = .returned (.tuple #[.int .i64 (lb l a), .bool (has l a)]) ∧ Chg (fun _ => False) w w' := by
  have BS := Lib.hid (bsearch_c w v l a h hs hl)
  clear h hs hl
  go_enter Try.func83, Try.ntmps83
  go_wp2_with fail
  refine BS.out.mono ?_
  rintro e w2 ⟨rfl, c2⟩
  have C2 := Lib.hid c2
  clear c2
  go_wp2_with fail
  go_ret2
  exact ⟨rfl, C2.out⟩
end Go.Proofs.Ytmnnahkaenikkaa
