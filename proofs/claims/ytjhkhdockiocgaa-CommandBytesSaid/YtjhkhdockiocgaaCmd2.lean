/- Contracts of package command: a coder that writes: ints, texts. -/
import Derived.Test.YtjhkhdockiocgaaCmd1
namespace Go.Proofs.Ytjhkhdockiocgaa
open Go.RowKit Go.Cat

def istep (st : List UInt8 × Int) (x : Int) : List UInt8 × Int := (st.1 ++ i8 x, st.2)
theorem istep_len (st : List UInt8 × Int) (x : Int) : (istep st x).1.length ≤ st.1.length + 300 := by simp [istep]
theorem tstep_len (st : List UInt8 × Int) (s : List UInt8) : (tstep st s).1.length ≤ st.1.length + 300 := by
  unfold tstep
  split
  · simp
  · simp; omega
theorem foldl_len {α : Type} (f : List UInt8 × Int → α → List UInt8 × Int) (hf : ∀ st x, (f st x).1.length ≤ st.1.length + 300) : ∀ (xs : List α) (st : List UInt8 × Int), (xs.foldl f st).1.length ≤ st.1.length + 300 * xs.length
  | [], st => by simp
  | x :: xs, st => by
    have h1 := foldl_len f hf xs (f st x)
    have h2 := hf st x
    simp only [List.foldl_cons, List.length_cons]
    omega
theorem SC_trans {S : Nat → Prop} {c : Nat} {w w1 w2 : World} (hcl : c < w.heap.size) (h : Chg (SC S c) w w1) (k : Chg (SC (ext S w w1) c) w1 w2) : Chg (SC S c) w w2 :=
  h.trans' k (fun i hi hs => by
    rcases hs with hs | hs
    · exact .inl (ext_old hs hi)
    · exact .inr hs)
theorem CodS.step {w0 w w1 w2 : World} {S : Nat → Prop} {c b : Nat} {l : List UInt8} {e : Int} (hS : ∀ k, S k → w0.heap.size ≤ k ∧ k < w.heap.size ∧ k ≠ c) (hcl : c < w.heap.size) (h0 : w0.heap.size ≤ w.heap.size) (z1 : w.heap.size ≤ w1.heap.size) (z2 : w1.heap.size ≤ w2.heap.size)
    (h : CodS w0 w2 (ext (ext S w w1) w1 w2) c b l e) : CodS w0 w2 (ext S w w2) c b l e :=
  h.grow (fun k hk => ext_ext z1 z2 hk) (fun k hk => by
    rcases hk with hk | hk
    · have := hS k hk; omega
    · omega)

set_option maxRecDepth 100000 in
set_option maxHeartbeats 1000000 in
theorem ints_any (w0 w : World) (Sw : Nat → Prop) (c b : Nat) (l : List UInt8) (e : Int) (v : Value) (B : Nat) (xs : List (Nat × Int)) (h : CodS w0 w Sw c b l e) (hv : Reads w 1 v xs.length (xs.map fun p => .pointer (some ⟨B, p.1, none⟩))) (hvS : ∀ k, v.ownBlock = some k → ¬ SC Sw c k)
    (hp : ∀ p ∈ xs, w0.cell? ⟨B, p.1, none⟩ = some (.int .i64 p.2)) (hn : xs.length ≤ 1000) (hl : l.length ≤ 10000000) :
    Calls Try.prog 101 #[.pointer (some ⟨c, 0, none⟩), v] w fun e' w' => e' = .returned (.tuple #[]) ∧ CodS w0 w' (ext Sw w w') c b ((xs.map (·.2)).foldl istep (l, e)).1 ((xs.map (·.2)).foldl istep (l, e)).2 ∧ Chg (SC Sw c) w w' := by
  obtain ⟨n, hnn⟩ : ∃ n, n = xs.length := ⟨_, rfl⟩
  have hvv := hv
  rw [← hnn] at hvv
  obtain ⟨va, vc, rfl⟩ : ∃ va vc, v = .slice va n vc := hvv.form
  have hS : Hid (∀ k, Sw k → w0.heap.size ≤ k ∧ k < w.heap.size ∧ k ≠ c) := by obtain ⟨_, _, _, h3, _, _⟩ := h; exact h3
  have hcl : c < w.heap.size := by obtain ⟨_, h1, _⟩ := h; exact (Array.getElem?_eq_some_iff.1 h1).1
  have h00 : w0.heap.size ≤ w.heap.size := by obtain ⟨_, _, _, _, _, h5⟩ := h; exact h5.size
  have H := Lib.hid h
  have HV := Lib.hid hvv
  have HVS := Lib.hid hvS
  have HP := Lib.hid hp
  rw [← hnn] at hn
  have HN := Lib.hid hnn
  clear h hv hvv hvS hp hnn
  go_enter Try.func101, Try.ntmps101
  go_wp2_with fail
  go_loopw [5, 8] (fun _ i wr => ∃ k : Nat, k ≤ n ∧ i = .int .i64 k ∧ Hid (CodS w0 wr (ext Sw w wr) c b (((xs.take k).map (·.2)).foldl istep (l, e)).1 (((xs.take k).map (·.2)).foldl istep (l, e)).2) ∧ Hid (Chg (SC Sw c) w wr)) (fun _ i _ => n - (intOf i).toNat)
  case atStart =>
    refine ⟨0, by omega, rfl, ?_, Chg.refl _ _⟩
    refine H.out.grow (fun k hk => .inl hk) (fun k hk => ?_)
    rcases hk with hk | hk
    · exact hS.out k hk
    · omega
  case round =>
    obtain ⟨k, hk, rfl, hC, hG⟩ := hrel
    by_cases hlt : k < n
    · obtain ⟨p, hpk⟩ : ∃ p, xs[k]? = some p := ⟨_, List.getElem?_eq_getElem (by rw [← HN.out]; exact hlt)⟩
      have hvr := HV.out.kept hG.out HVS.out
      obtain ⟨g, o, rfl⟩ : ∃ g o, va = some ⟨g, o, none⟩ := by
        rcases hvr.2 with ⟨hv, h0⟩ | ⟨g, o, c', hv, _⟩
        · omega
        · simp only [Value.slice.injEq] at hv; exact ⟨g, o, hv.1⟩
      have hcell : wr.cell? ⟨g, o + k, none⟩ = some (.pointer (some ⟨B, p.1, none⟩)) := by
        rcases hvr.2 with ⟨hv, h0⟩ | ⟨g', o', c', hv, _, _, _, h4⟩
        · simp at hv
        · simp only [Value.slice.injEq, Option.some.injEq, Addr.mk.injEq, and_true] at hv
          obtain ⟨⟨rfl, rfl⟩, _⟩ := hv
          exact h4 k _ (by simp [hpk])
      have hkI : (k : Int) < n := by omega
      have hw1 : wrap64 ((k : Int) + 1) = (k : Int) + 1 := by unfold wrap64; omega
      have hpx := Lib.hid (HP.out p (List.mem_of_getElem? hpk))
      have hst : ((xs.take (k + 1)).map (·.2)).foldl istep (l, e) = istep (((xs.take k).map (·.2)).foldl istep (l, e)) p.2 := by
        rw [List.take_add_one, hpk, Option.toList_some, List.map_append, List.foldl_append]; rfl
      have HST := Lib.hid hst
      have hlen : (((xs.take k).map (·.2)).foldl istep (l, e)).1.length ≤ 100000000 := by
        have h6 := foldl_len istep istep_len ((xs.take k).map (·.2)) (l, e)
        have h7 : ((xs.take k).map (·.2)).length ≤ k := by simp; omega
        simp only at h6
        omega
      obtain ⟨st, hs⟩ : ∃ st, st = ((xs.take k).map (·.2)).foldl istep (l, e) := ⟨_, rfl⟩
      have hCC := hC.out
      rw [← hs] at hCC hlen
      have HS := Lib.hid hs
      have HCC := Lib.hid hCC
      have ONE := Lib.hid (cint_any w0 wr (ext Sw w wr) c b st.1 st.2 p.2 B p.1 HCC.out hpx.out hlen)
      clear hs hCC hst hvr hpk
      go_wp2_with fail
      refine ONE.out.mono ?_
      rintro e' w2 ⟨rfl, h2, c2⟩
      have z1 := hG.out.size
      have z2 := c2.size
      have h3 : Hid (CodS w0 w2 (ext Sw w w2) c b (((xs.take (k + 1)).map (·.2)).foldl istep (l, e)).1 (((xs.take (k + 1)).map (·.2)).foldl istep (l, e)).2) := by
        rw [HST.out, ← HS.out]
        exact CodS.step hS.out hcl h00 z1 z2 h2
      have hG2 : Hid (Chg (SC Sw c) w w2) := SC_trans hcl hG.out c2
      clear h2
      go_wp2_with fail
      exact ⟨⟨k + 1, by omega, rfl, h3.out, hG2.out⟩, by simp only [intOf]; omega⟩
    · obtain rfl : k = n := by omega
      have h9 := hC.out
      rw [List.take_of_length_le (by rw [HN.out]; exact Nat.le_refl _)] at h9
      have H9 := Lib.hid h9
      clear h9
      go_wp2_with fail
      go_end0
      exact ⟨rfl, H9.out, hG.out⟩

set_option maxRecDepth 100000 in
set_option maxHeartbeats 1000000 in
theorem texts_any (w0 w : World) (Sw : Nat → Prop) (c b : Nat) (l : List UInt8) (e : Int) (v : Value) (B : Nat) (xs : List (Nat × List UInt8)) (h : CodS w0 w Sw c b l e) (hv : Reads w 1 v xs.length (xs.map fun p => .pointer (some ⟨B, p.1, none⟩))) (hvS : ∀ k, v.ownBlock = some k → ¬ SC Sw c k)
    (hp : ∀ p ∈ xs, w0.cell? ⟨B, p.1, none⟩ = some (.string ⟨p.2.toArray⟩)) (hn : xs.length ≤ 1000) (hl : l.length ≤ 10000000) :
    Calls Try.prog 102 #[.pointer (some ⟨c, 0, none⟩), v] w fun e' w' => e' = .returned (.tuple #[]) ∧ CodS w0 w' (ext Sw w w') c b ((xs.map (·.2)).foldl tstep (l, e)).1 ((xs.map (·.2)).foldl tstep (l, e)).2 ∧ Chg (SC Sw c) w w' := by
  obtain ⟨n, hnn⟩ : ∃ n, n = xs.length := ⟨_, rfl⟩
  have hvv := hv
  rw [← hnn] at hvv
  obtain ⟨va, vc, rfl⟩ : ∃ va vc, v = .slice va n vc := hvv.form
  have hS : Hid (∀ k, Sw k → w0.heap.size ≤ k ∧ k < w.heap.size ∧ k ≠ c) := by obtain ⟨_, _, _, h3, _, _⟩ := h; exact h3
  have hcl : c < w.heap.size := by obtain ⟨_, h1, _⟩ := h; exact (Array.getElem?_eq_some_iff.1 h1).1
  have h00 : w0.heap.size ≤ w.heap.size := by obtain ⟨_, _, _, _, _, h5⟩ := h; exact h5.size
  have H := Lib.hid h
  have HV := Lib.hid hvv
  have HVS := Lib.hid hvS
  have HP := Lib.hid hp
  rw [← hnn] at hn
  have HN := Lib.hid hnn
  clear h hv hvv hvS hp hnn
  go_enter Try.func102, Try.ntmps102
  go_wp2_with fail
  go_loopw [5, 8] (fun _ i wr => ∃ k : Nat, k ≤ n ∧ i = .int .i64 k ∧ Hid (CodS w0 wr (ext Sw w wr) c b (((xs.take k).map (·.2)).foldl tstep (l, e)).1 (((xs.take k).map (·.2)).foldl tstep (l, e)).2) ∧ Hid (Chg (SC Sw c) w wr)) (fun _ i _ => n - (intOf i).toNat)
  case atStart =>
    refine ⟨0, by omega, rfl, ?_, Chg.refl _ _⟩
    refine H.out.grow (fun k hk => .inl hk) (fun k hk => ?_)
    rcases hk with hk | hk
    · exact hS.out k hk
    · omega
  case round =>
    obtain ⟨k, hk, rfl, hC, hG⟩ := hrel
    by_cases hlt : k < n
    · obtain ⟨p, hpk⟩ : ∃ p, xs[k]? = some p := ⟨_, List.getElem?_eq_getElem (by rw [← HN.out]; exact hlt)⟩
      have hvr := HV.out.kept hG.out HVS.out
      obtain ⟨g, o, rfl⟩ : ∃ g o, va = some ⟨g, o, none⟩ := by
        rcases hvr.2 with ⟨hv, h0⟩ | ⟨g, o, c', hv, _⟩
        · omega
        · simp only [Value.slice.injEq] at hv; exact ⟨g, o, hv.1⟩
      have hcell : wr.cell? ⟨g, o + k, none⟩ = some (.pointer (some ⟨B, p.1, none⟩)) := by
        rcases hvr.2 with ⟨hv, h0⟩ | ⟨g', o', c', hv, _, _, _, h4⟩
        · simp at hv
        · simp only [Value.slice.injEq, Option.some.injEq, Addr.mk.injEq, and_true] at hv
          obtain ⟨⟨rfl, rfl⟩, _⟩ := hv
          exact h4 k _ (by simp [hpk])
      have hkI : (k : Int) < n := by omega
      have hw1 : wrap64 ((k : Int) + 1) = (k : Int) + 1 := by unfold wrap64; omega
      have hpx := Lib.hid (HP.out p (List.mem_of_getElem? hpk))
      have hst : ((xs.take (k + 1)).map (·.2)).foldl tstep (l, e) = tstep (((xs.take k).map (·.2)).foldl tstep (l, e)) p.2 := by
        rw [List.take_add_one, hpk, Option.toList_some, List.map_append, List.foldl_append]; rfl
      have HST := Lib.hid hst
      have hlen : (((xs.take k).map (·.2)).foldl tstep (l, e)).1.length ≤ 100000000 := by
        have h6 := foldl_len tstep tstep_len ((xs.take k).map (·.2)) (l, e)
        have h7 : ((xs.take k).map (·.2)).length ≤ k := by simp; omega
        simp only at h6
        omega
      obtain ⟨st, hs⟩ : ∃ st, st = ((xs.take k).map (·.2)).foldl tstep (l, e) := ⟨_, rfl⟩
      have hCC := hC.out
      rw [← hs] at hCC hlen
      have HS := Lib.hid hs
      have HCC := Lib.hid hCC
      have ONE := Lib.hid (ctext_any w0 wr (ext Sw w wr) c b st.1 st.2 p.2 B p.1 HCC.out hpx.out hlen)
      clear hs hCC hst hvr hpk
      go_wp2_with fail
      refine ONE.out.mono ?_
      rintro e' w2 ⟨rfl, h2, c2⟩
      have z1 := hG.out.size
      have z2 := c2.size
      have h3 : Hid (CodS w0 w2 (ext Sw w w2) c b (((xs.take (k + 1)).map (·.2)).foldl tstep (l, e)).1 (((xs.take (k + 1)).map (·.2)).foldl tstep (l, e)).2) := by
        rw [HST.out, ← HS.out]
        exact CodS.step hS.out hcl h00 z1 z2 h2
      have hG2 : Hid (Chg (SC Sw c) w w2) := SC_trans hcl hG.out c2
      clear h2
      go_wp2_with fail
      exact ⟨⟨k + 1, by omega, rfl, h3.out, hG2.out⟩, by simp only [intOf]; omega⟩
    · obtain rfl : k = n := by omega
      have h9 := hC.out
      rw [List.take_of_length_le (by rw [HN.out]; exact Nat.le_refl _)] at h9
      have H9 := Lib.hid h9
      clear h9
      go_wp2_with fail
      go_end0
      exact ⟨rfl, H9.out, hG.out⟩
end Go.Proofs.Ytjhkhdockiocgaa
