/- Contracts of package command: a coder that reads: ints, texts. -/
import Derived.Test.YtjhkhdockiocgaaCmd6
namespace Go.Proofs.Ytjhkhdockiocgaa
open Go.RowKit Go.Cat

abbrev CS := Array Value × RS
def riS (s : CS) (o : Nat) : CS := (s.1.setIfInBounds o (.int .i64 (rdInt s.2).1), (rdInt s.2).2)
def rtS (s : CS) (o : Nat) : CS := (s.1.setIfInBounds o (.string ⟨(rdText 255 s.2).1.toArray⟩), (rdText 255 s.2).2)
theorem riS_len (os : List Nat) : ∀ (s : CS), (os.foldl riS s).2.1.length ≤ s.2.1.length := by
  induction os with
  | nil => intro s; exact Nat.le_refl _
  | cons o os ih => intro s; exact Nat.le_trans (ih _) (rdInt_len _)
theorem rtS_len (os : List Nat) : ∀ (s : CS), (os.foldl rtS s).2.1.length ≤ s.2.1.length := by
  induction os with
  | nil => intro s; exact Nat.le_refl _
  | cons o os ih => intro s; exact Nat.le_trans (ih _) (rdText_len _ _)
theorem riS_size (os : List Nat) : ∀ (s : CS), (os.foldl riS s).1.size = s.1.size := by
  induction os with
  | nil => intro s; rfl
  | cons o os ih => intro s; rw [List.foldl_cons, ih]; simp [riS]
theorem rtS_size (os : List Nat) : ∀ (s : CS), (os.foldl rtS s).1.size = s.1.size := by
  induction os with
  | nil => intro s; rfl
  | cons o os ih => intro s; rw [List.foldl_cons, ih]; simp [rtS]

set_option maxRecDepth 100000 in
set_option maxHeartbeats 1000000 in
theorem rcints_any (w : World) (S : Nat → Prop) (c b : Nat) (st : RS) (B : Nat) (cs : Array Value) (T : TypeId) (v : Value) (os : List Nat) (h : CodR w S c b st) (hB : w.heap[B]? = some (.cells cs T (0, 0))) (hBS : ¬ S B) (hBc : B ≠ c) (hv : Reads w 1 v os.length (os.map fun o => .pointer (some ⟨B, o, none⟩))) (hvS : ∀ k, v.ownBlock = some k → ¬ RB2 b B k)
    (ho : ∀ o ∈ os, o < cs.size) (hn : os.length ≤ 1000) (hl : st.1.length ≤ 140737488355328) :
    Calls Try.prog 101 #[.pointer (some ⟨c, 0, none⟩), v] w fun e' w' => e' = .returned (.tuple #[]) ∧ CodR w' S c b (os.foldl riS (cs, st)).2 ∧ w'.heap[B]? = some (.cells (os.foldl riS (cs, st)).1 T (0, 0)) ∧ Chg (RB2 b B) w w' := by
  obtain ⟨n, hnn⟩ : ∃ n, n = os.length := ⟨_, rfl⟩
  rw [← hnn] at hv hn
  obtain ⟨va, vc, rfl⟩ := hv.form
  have H := Lib.hid h
  have HB := Lib.hid hB
  have HV := Lib.hid hv
  have HVS := Lib.hid hvS
  have HO := Lib.hid ho
  have HN := Lib.hid hnn
  have hcb : ¬ RB2 b B c := fun e => by
    rcases e with e | e
    · obtain ⟨_, _, _, h3⟩ := h; exact h3 (e ▸ CodR.sb ‹_›)
    · exact hBc e.symm
  clear h hB hv hvS ho hnn
  go_enter Try.func101, Try.ntmps101
  go_wp2_with fail
  go_loopw [5, 8] (fun _ i wr => ∃ k : Nat, k ≤ n ∧ i = .int .i64 k ∧ Hid (CodR wr S c b ((os.take k).foldl riS (cs, st)).2) ∧ Hid (wr.heap[B]? = some (.cells ((os.take k).foldl riS (cs, st)).1 T (0, 0))) ∧ Hid (Chg (RB2 b B) w wr)) (fun _ i _ => n - (intOf i).toNat)
  case atStart => exact ⟨0, by omega, rfl, H.out, HB.out, Chg.refl _ _⟩
  case round =>
    obtain ⟨k, hk, rfl, hC, hBk, hG⟩ := hrel
    by_cases hlt : k < n
    · obtain ⟨o, hok⟩ : ∃ o, os[k]? = some o := ⟨_, List.getElem?_eq_getElem (by rw [← HN.out]; exact hlt)⟩
      have hvr := HV.out.kept hG.out HVS.out
      obtain ⟨g, q, rfl⟩ : ∃ g q, va = some ⟨g, q, none⟩ := by
        rcases hvr.2 with ⟨hv, h0⟩ | ⟨g, q, c', hv, _⟩
        · omega
        · simp only [Value.slice.injEq] at hv; exact ⟨g, q, hv.1⟩
      have hcell : wr.cell? ⟨g, q + k, none⟩ = some (.pointer (some ⟨B, o, none⟩)) := by
        rcases hvr.2 with ⟨hv, h0⟩ | ⟨g', o', c', hv, _, _, _, h4⟩
        · simp at hv
        · simp only [Value.slice.injEq, Option.some.injEq, Addr.mk.injEq, and_true] at hv
          obtain ⟨⟨rfl, rfl⟩, _⟩ := hv
          exact h4 k _ (by simp [hok])
      have hkI : (k : Int) < n := by omega
      have hw1 : wrap64 ((k : Int) + 1) = (k : Int) + 1 := by unfold wrap64; omega
      have hst : (os.take (k + 1)).foldl riS (cs, st) = riS ((os.take k).foldl riS (cs, st)) o := by
        rw [List.take_add_one, hok, Option.toList_some, List.foldl_append]; rfl
      have hsz : ((os.take k).foldl riS (cs, st)).1.size = cs.size := riS_size _ _
      have hln : ((os.take k).foldl riS (cs, st)).2.1.length ≤ st.1.length := riS_len _ _
      obtain ⟨⟨cs1, st1⟩, hs⟩ : ∃ s, s = (os.take k).foldl riS (cs, st) := ⟨_, rfl⟩
      rw [← hs] at hst hsz hln hC hBk
      have ho1 : o < cs1.size := by rw [hsz]; exact HO.out o (List.mem_of_getElem? hok)
      have HST := Lib.hid hst
      have ONE := Lib.hid (rcint_any wr S c b st1 B o cs1 T hC.out hBk.out hBS hBc ho1 (by simp only at hln; omega))
      clear hs hst hvr hok hsz hln hC hBk ho1
      go_wp2_with fail
      refine ONE.out.mono ?_
      rintro e' w2 ⟨rfl, h2, hB2, c2⟩
      have H2 : Hid (CodR w2 S c b ((os.take (k + 1)).foldl riS (cs, st)).2) := by rw [HST.out]; exact h2
      have HB2 : Hid (w2.heap[B]? = some (.cells ((os.take (k + 1)).foldl riS (cs, st)).1 T (0, 0))) := by rw [HST.out]; exact hB2
      have hG2 : Hid (Chg (RB2 b B) w w2) := hG.out.trans c2
      clear h2 hB2
      go_wp2_with fail
      exact ⟨⟨k + 1, by omega, rfl, H2.out, HB2.out, hG2.out⟩, by simp only [intOf]; omega⟩
    · obtain rfl : k = n := by omega
      rw [List.take_of_length_le (by rw [HN.out]; exact Nat.le_refl _)] at hC hBk
      go_wp2_with fail
      go_end0
      exact ⟨rfl, hC.out, hBk.out, hG.out⟩

set_option maxRecDepth 100000 in
set_option maxHeartbeats 1000000 in
theorem rctexts_any (w : World) (S : Nat → Prop) (c b : Nat) (st : RS) (B : Nat) (cs : Array Value) (T : TypeId) (v : Value) (os : List Nat) (h : CodR w S c b st) (hB : w.heap[B]? = some (.cells cs T (0, 0))) (hBS : ¬ S B) (hBc : B ≠ c) (hv : Reads w 1 v os.length (os.map fun o => .pointer (some ⟨B, o, none⟩))) (hvS : ∀ k, v.ownBlock = some k → ¬ RB2 b B k)
    (ho : ∀ o ∈ os, o < cs.size) (hn : os.length ≤ 1000) (hl : st.1.length ≤ 140737488355328) :
    Calls Try.prog 102 #[.pointer (some ⟨c, 0, none⟩), v] w fun e' w' => e' = .returned (.tuple #[]) ∧ CodR w' S c b (os.foldl rtS (cs, st)).2 ∧ w'.heap[B]? = some (.cells (os.foldl rtS (cs, st)).1 T (0, 0)) ∧ Chg (RB2 b B) w w' := by
  obtain ⟨n, hnn⟩ : ∃ n, n = os.length := ⟨_, rfl⟩
  rw [← hnn] at hv hn
  obtain ⟨va, vc, rfl⟩ := hv.form
  have H := Lib.hid h
  have HB := Lib.hid hB
  have HV := Lib.hid hv
  have HVS := Lib.hid hvS
  have HO := Lib.hid ho
  have HN := Lib.hid hnn
  have hcb : ¬ RB2 b B c := fun e => by
    rcases e with e | e
    · obtain ⟨_, _, _, h3⟩ := h; exact h3 (e ▸ CodR.sb ‹_›)
    · exact hBc e.symm
  clear h hB hv hvS ho hnn
  go_enter Try.func102, Try.ntmps102
  go_wp2_with fail
  go_loopw [5, 8] (fun _ i wr => ∃ k : Nat, k ≤ n ∧ i = .int .i64 k ∧ Hid (CodR wr S c b ((os.take k).foldl rtS (cs, st)).2) ∧ Hid (wr.heap[B]? = some (.cells ((os.take k).foldl rtS (cs, st)).1 T (0, 0))) ∧ Hid (Chg (RB2 b B) w wr)) (fun _ i _ => n - (intOf i).toNat)
  case atStart => exact ⟨0, by omega, rfl, H.out, HB.out, Chg.refl _ _⟩
  case round =>
    obtain ⟨k, hk, rfl, hC, hBk, hG⟩ := hrel
    by_cases hlt : k < n
    · obtain ⟨o, hok⟩ : ∃ o, os[k]? = some o := ⟨_, List.getElem?_eq_getElem (by rw [← HN.out]; exact hlt)⟩
      have hvr := HV.out.kept hG.out HVS.out
      obtain ⟨g, q, rfl⟩ : ∃ g q, va = some ⟨g, q, none⟩ := by
        rcases hvr.2 with ⟨hv, h0⟩ | ⟨g, q, c', hv, _⟩
        · omega
        · simp only [Value.slice.injEq] at hv; exact ⟨g, q, hv.1⟩
      have hcell : wr.cell? ⟨g, q + k, none⟩ = some (.pointer (some ⟨B, o, none⟩)) := by
        rcases hvr.2 with ⟨hv, h0⟩ | ⟨g', o', c', hv, _, _, _, h4⟩
        · simp at hv
        · simp only [Value.slice.injEq, Option.some.injEq, Addr.mk.injEq, and_true] at hv
          obtain ⟨⟨rfl, rfl⟩, _⟩ := hv
          exact h4 k _ (by simp [hok])
      have hkI : (k : Int) < n := by omega
      have hw1 : wrap64 ((k : Int) + 1) = (k : Int) + 1 := by unfold wrap64; omega
      have hst : (os.take (k + 1)).foldl rtS (cs, st) = rtS ((os.take k).foldl rtS (cs, st)) o := by
        rw [List.take_add_one, hok, Option.toList_some, List.foldl_append]; rfl
      have hsz : ((os.take k).foldl rtS (cs, st)).1.size = cs.size := rtS_size _ _
      have hln : ((os.take k).foldl rtS (cs, st)).2.1.length ≤ st.1.length := rtS_len _ _
      obtain ⟨⟨cs1, st1⟩, hs⟩ : ∃ s, s = (os.take k).foldl rtS (cs, st) := ⟨_, rfl⟩
      rw [← hs] at hst hsz hln hC hBk
      have ho1 : o < cs1.size := by rw [hsz]; exact HO.out o (List.mem_of_getElem? hok)
      have HST := Lib.hid hst
      have ONE := Lib.hid (rctext_any wr S c b st1 B o cs1 T hC.out hBk.out hBS hBc ho1 (by simp only at hln; omega))
      clear hs hst hvr hok hsz hln hC hBk ho1
      go_wp2_with fail
      refine ONE.out.mono ?_
      rintro e' w2 ⟨rfl, h2, hB2, c2⟩
      have H2 : Hid (CodR w2 S c b ((os.take (k + 1)).foldl rtS (cs, st)).2) := by rw [HST.out]; exact h2
      have HB2 : Hid (w2.heap[B]? = some (.cells ((os.take (k + 1)).foldl rtS (cs, st)).1 T (0, 0))) := by rw [HST.out]; exact hB2
      have hG2 : Hid (Chg (RB2 b B) w w2) := hG.out.trans c2
      clear h2 hB2
      go_wp2_with fail
      exact ⟨⟨k + 1, by omega, rfl, H2.out, HB2.out, hG2.out⟩, by simp only [intOf]; omega⟩
    · obtain rfl : k = n := by omega
      rw [List.take_of_length_le (by rw [HN.out]; exact Nat.le_refl _)] at hC hBk
      go_wp2_with fail
      go_end0
      exact ⟨rfl, hC.out, hBk.out, hG.out⟩
end Go.Proofs.Ytjhkhdockiocgaa
