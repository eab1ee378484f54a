/- A device that was made since a world w0, apart from the blocks of S; what journals on it do. -/
import Derived.Test.YtjhkhdockiocgaaJourPure
namespace Go.Proofs.Ytjhkhdockiocgaa
open Go.RowKit Go.Cat

/-- A device made since w0; the blocks of S are new too and none of its memory. -/
def DJ (w0 w : World) (D : Nat) (d : Dev) (S : Nat → Prop) : Prop := Chg (fun _ => False) w0 w ∧ (∀ k, S k → w0.heap.size ≤ k ∧ k < w.heap.size) ∧ ∃ lv wv, DevIs w D lv wv d ∧ ∀ k, foot D lv wv k → w0.heap.size ≤ k ∧ ¬ S k
theorem foot_lt {w : World} {D : Nat} {lv wv : Value} {d : Dev} (h : DevIs w D lv wv d) : ∀ k, foot D lv wv k → k < w.heap.size := fun k hk => by
  rcases hk with hk | hk | hk
  · obtain ⟨T, hb⟩ := h.heap; rw [hk]; exact (Array.getElem?_eq_some_iff.1 hb).1
  · exact h.ownL.lt k hk
  · exact h.ownW.lt k hk
theorem DJ.kept {w0 w w' : World} {D : Nat} {d : Dev} {S S' : Nat → Prop} (h : DJ w0 w D d S) {T : Nat → Prop} (c : Chg T w w') (hT : ∀ k, k < w.heap.size → T k → S k) (hS : ∀ k, S' k → S k ∨ (w.heap.size ≤ k ∧ k < w'.heap.size)) : DJ w0 w' D d S' := by
  obtain ⟨h1, h2, lv, wv, h3, h4⟩ := h
  have hz := h1.size
  have hc := c.size
  refine ⟨h1.trans' c (fun i hi ht => by have := (h2 i (hT i (by omega) ht)).1; omega), fun k hk => ?_, lv, wv, h3.kept c (fun k hk ht => (h4 k hk).2 (hT k (foot_lt h3 k hk) ht)), fun k hk => ⟨(h4 k hk).1, fun hs => ?_⟩⟩
  · rcases hS k hk with h | h
    · have := h2 k h; omega
    · omega
  · rcases hS k hs with h | h
    · exact (h4 k hk).2 h
    · have := foot_lt h3 k hk; omega
theorem DJ.same {w0 w w' : World} {D : Nat} {d : Dev} {S : Nat → Prop} (h : DJ w0 w D d S) (c : Chg (fun _ => False) w w') : DJ w0 w' D d S := h.kept c (fun _ _ h => h.elim) (fun _ h => .inl h)
theorem DJ.less {w0 w : World} {D : Nat} {d : Dev} {S S' : Nat → Prop} (h : DJ w0 w D d S) (hs : ∀ k, S' k → S k) : DJ w0 w D d S' := h.kept (Chg.refl (fun _ => False) w) (fun _ _ h => h.elim) (fun k hk => .inl (hs k hk))
/-- Behind a step of the device. -/
theorem DJ.next {w0 w w' : World} {D : Nat} {lv wv wv' : Value} {d d' : Dev} {S T : Nat → Prop} (hc : Chg (fun _ => False) w0 w) (hS : ∀ k, S k → w0.heap.size ≤ k ∧ k < w.heap.size) (h0 : DevIs w D lv wv d) (hf : ∀ k, foot D lv wv k → w0.heap.size ≤ k ∧ ¬ S k)
    (h : DevIs w' D lv wv' d') (c : Chg T w w') (hT : ∀ k, k < w.heap.size → T k → w0.heap.size ≤ k) (hw : ∀ k, wv'.ownBlock = some k → wv.ownBlock = some k ∨ w.heap.size ≤ k) : DJ w0 w' D d' S := by
  have hz := hc.size
  have hcz := c.size
  refine ⟨hc.trans' c (fun i hi ht => by have := hT i (by omega) ht; omega), fun k hk => by have := hS k hk; omega, lv, wv', h, fun k hk => ?_⟩
  rcases hk with hk | hk | hk
  · exact hf k (.inl hk)
  · exact hf k (.inr (.inl hk))
  · rcases hw k hk with h1 | h1
    · exact hf k (.inr (.inr h1))
    · exact ⟨by omega, fun hs => by have := hS k hs; omega⟩
theorem dj_new (w0 w : World) (n : Nat) (h1 : 1 ≤ n) (h2 : n ≤ 8192) (hc : Chg (fun _ => False) w0 w) :
    Calls Try.prog 24 #[.int .i64 n] w fun e w' => ∃ D, e = .returned (.tuple #[.pointer (some ⟨D, 0, none⟩), .int .i64 0]) ∧ DJ w0 w' D ⟨List.replicate n (zb 64), [], false, 0, 0, 0, 0⟩ (fun _ => False) ∧ Chg (fun _ => False) w w' := by
  refine (new_dev n w h1 h2).mono ?_
  rintro e w' ⟨D, rfl, ⟨lv, wv, h3, h4⟩, c⟩
  exact ⟨D, rfl, ⟨hc.trans c, fun _ h => h.elim, lv, wv, h3, fun k hk => ⟨by have := h4 k hk; have := hc.size; omega, fun h => h⟩⟩, c⟩
theorem dj_newj (w0 w : World) (D : Nat) (d : Dev) (S : Nat → Prop) (h : DJ w0 w D d S) (lo n turn : Nat) (ht : turn ≠ 0) (h1 : 1 ≤ n) (h2 : lo + n ≤ d.l.length) :
    Calls Try.prog 25 #[.pointer (some ⟨D, 0, none⟩), .int .i64 lo, .int .i64 n, .int .u32 turn] w fun e w' => ∃ J, e = .returned (.tuple #[.pointer (some ⟨J, 0, none⟩), .int .i64 0]) ∧ DJ w0 w' D d (fun k => S k ∨ k = J) ∧ JIs w' J D lo n turn 0 ∧ w.heap.size ≤ J ∧ Chg (fun _ => False) w w' := by
  obtain ⟨h3, h4, lv, wv, h5, h6⟩ := h
  refine (newj_in w D lv wv d h5 lo n turn ht h1 h2).mono ?_
  rintro e w' ⟨rfl, j, c⟩
  exact ⟨w.heap.size, rfl, DJ.kept ⟨h3, h4, lv, wv, h5, h6⟩ c (fun _ _ h => h.elim) (fun k hk => by
    rcases hk with hk | hk
    · exact .inl hk
    · exact .inr ⟨by omega, by rw [hk]; exact j.lt⟩), j, Nat.le_refl _, c⟩
theorem dj_write (w0 w : World) (J D lo n turn next : Nat) (d : Dev) (S : Nat → Prop) (v : Value) (l : List UInt8) (h : DJ w0 w D d S) (hj : JIs w J D lo n turn next) (hJ : S J) (hv : RBz w v l) (hd : d.down = false) (hl0 : d.left = 0)
    (hin : lo + n ≤ d.l.length) (hl : l.length ≤ 600) (hfit : next + costN l.length ≤ n) (ht : turn < 4294967296) (h0 : turn ≠ 0) (hm : d.waits.length ≤ 900000) :
    Calls Try.prog 27 #[.pointer (some ⟨J, 0, none⟩), v] w fun e w' => e = .returned (.int .i64 0) ∧ DJ w0 w' D { d with waits := d.waits ++ wat (lo + next) (recSecs turn next l) } S ∧ JIs w' J D lo n turn (next + costN l.length) ∧
      ∃ T, Chg T w w' ∧ ∀ k, k < w.heap.size → T k → w0.heap.size ≤ k ∧ (S k → k = J) := by
  obtain ⟨h3, h4, lv, wv, h5, h6⟩ := h
  refine (writej_ok w J D lo n turn next lv wv v d l h5 hj (fun hf => (h6 J hf).2 hJ) hv hd hl0 hin hl hfit ht h0 hm).mono ?_
  rintro e w' ⟨rfl, wv', h7, j, c, h8⟩
  have hT : ∀ k, k < w.heap.size → (foot D lv wv k ∨ k = J) → w0.heap.size ≤ k ∧ (S k → k = J) := fun k _ hk => by
    rcases hk with hk | hk
    · exact ⟨(h6 k hk).1, fun hs => absurd hs (h6 k hk).2⟩
    · exact ⟨by rw [hk]; exact (h4 J hJ).1, fun _ => hk⟩
  exact ⟨rfl, DJ.next h3 h4 h5 h6 h7 c (fun k hk ht => (hT k hk ht).1) h8, j, _, c, hT⟩
theorem dj_commit (w0 w : World) (J D lo n turn next : Nat) (d : Dev) (S : Nat → Prop) (v : Value) (l : List UInt8) (h : DJ w0 w D d S) (hj : JIs w J D lo n turn next) (hJ : S J) (hv : RBz w v l) (hd : d.down = false) (hl0 : d.left = 0)
    (hin : lo + n ≤ d.l.length) (hl : l.length ≤ 600) (hfit : next + costN l.length ≤ n) (ht : turn < 4294967296) (h0 : turn ≠ 0) (hm : d.waits.length ≤ 900000) :
    Calls Try.prog 26 #[.pointer (some ⟨J, 0, none⟩), v] w fun e w' => e = .returned (.int .i64 0) ∧ DJ w0 w' D { d with l := flushTo d.l (d.waits ++ wat (lo + next) (recSecs turn next l)), waits := [] } S ∧ JIs w' J D lo n turn (next + costN l.length) ∧
      ∃ T, Chg T w w' ∧ ∀ k, k < w.heap.size → T k → w0.heap.size ≤ k ∧ (S k → k = J) := by
  obtain ⟨h3, h4, lv, wv, h5, h6⟩ := h
  refine (commitj_ok w J D lo n turn next lv wv v d l h5 hj (fun hf => (h6 J hf).2 hJ) hv hd hl0 hin hl hfit ht h0 hm).mono ?_
  rintro e w' ⟨rfl, h7, j, T, c, h8⟩
  have hT : ∀ k, k < w.heap.size → T k → w0.heap.size ≤ k ∧ (S k → k = J) := fun k hk ht => by
    rcases h8 k hk ht with hk | hk
    · exact ⟨(h6 k hk).1, fun hs => absurd hs (h6 k hk).2⟩
    · exact ⟨by rw [hk]; exact (h4 J hJ).1, fun _ => hk⟩
  exact ⟨rfl, DJ.next h3 h4 h5 h6 h7 c (fun k hk ht => (hT k hk ht).1) (by simp [Value.ownBlock]), j, _, c, hT⟩
theorem dj_wipe (w0 w : World) (D lo n : Nat) (d : Dev) (S : Nat → Prop) (h : DJ w0 w D d S) (hd : d.down = false) (hl0 : d.left = 0) (h1 : 1 ≤ n) (hr : lo + n ≤ d.l.length) (hm : d.waits.length ≤ 900000) :
    Calls Try.prog 36 #[.pointer (some ⟨D, 0, none⟩), .int .i64 lo, .int .i64 n] w fun e w' => e = .returned (.int .i64 0) ∧ DJ w0 w' D { d with l := flushTo d.l (d.waits ++ wat lo (List.replicate n (zb 64))), waits := [] } S ∧
      ∃ T, Chg T w w' ∧ ∀ k, k < w.heap.size → T k → w0.heap.size ≤ k ∧ ¬ S k := by
  obtain ⟨h3, h4, lv, wv, h5, h6⟩ := h
  refine (wipej_ok w D lv wv d lo n h5 hd hl0 h1 hr hm).mono ?_
  rintro e w' ⟨rfl, h7, T, c, h8⟩
  have hT : ∀ k, k < w.heap.size → T k → w0.heap.size ≤ k ∧ ¬ S k := fun k hk ht => h6 k (h8 k hk ht)
  exact ⟨rfl, DJ.next h3 h4 h5 h6 h7 c (fun k hk ht => (hT k hk ht).1) (by simp [Value.ownBlock]), _, c, hT⟩
theorem dj_crash (w0 w : World) (D : Nat) (d : Dev) (S : Nat → Prop) (keep : Nat) (torn bytes : Int) (h : DJ w0 w D d S) (hm : d.waits.length ≤ 1000000) :
    Calls Try.prog 28 #[.pointer (some ⟨D, 0, none⟩), .int .u64 keep, .int .i64 torn, .int .i64 bytes] w fun e w' => e = .returned (.tuple #[]) ∧ DJ w0 w' D { d with l := crashTo keep torn bytes d.l d.waits d.waits.length, waits := [], down := true, left := 0 } S ∧
      ∃ T, Chg T w w' ∧ ∀ k, k < w.heap.size → T k → w0.heap.size ≤ k ∧ ¬ S k := by
  obtain ⟨h3, h4, lv, wv, h5, h6⟩ := h
  refine (crash_ok w D lv wv d keep torn bytes h5 hm).mono ?_
  rintro e w' ⟨rfl, h7, c⟩
  exact ⟨rfl, DJ.next h3 h4 h5 h6 h7 c (fun k hk ht => (h6 k ht).1) (by simp [Value.ownBlock]), _, c, fun k _ ht => h6 k ht⟩
theorem dj_up (w0 w : World) (D : Nat) (d : Dev) (S : Nat → Prop) (h : DJ w0 w D d S) :
    Calls Try.prog 29 #[.pointer (some ⟨D, 0, none⟩)] w fun e w' => e = .returned (.tuple #[]) ∧ DJ w0 w' D { d with down := false, left := 0 } S ∧ ∃ T, Chg T w w' ∧ ∀ k, k < w.heap.size → T k → w0.heap.size ≤ k ∧ ¬ S k := by
  obtain ⟨h3, h4, lv, wv, h5, h6⟩ := h
  refine (up_any w D lv wv d h5).mono ?_
  rintro e w' ⟨rfl, h7, c⟩
  exact ⟨rfl, DJ.next h3 h4 h5 h6 h7 c (fun k hk ht => (h6 k (.inl ht)).1) (fun k hk => .inl hk), _, c, fun k _ ht => h6 k (.inl ht)⟩
theorem dj_read (w0 w : World) (D lo n : Nat) (d : Dev) (S : Nat → Prop) (h : DJ w0 w D d S) (hd : d.down = false) (h1 : 1 ≤ n) (hr : lo + n ≤ d.l.length) (hm : d.waits.length ≤ 1000000) (X : List (List UInt8)) (hX : readOf d.l d.waits lo n = X) (hk : KnownAll X) (hlen : X.length = n) :
    Calls Try.prog 30 #[.pointer (some ⟨D, 0, none⟩), .int .i64 lo, .int .i64 n] w fun e w' => ∃ v' out F, e = .returned (.tuple #[v', .int .u32 (turnB (X.headD [])), .int .i64 0]) ∧ OutsF w' F v' out ∧ (∀ q, F q → w.heap.size ≤ q) ∧
      Recs (turnB (X.headD [])) X out ∧ DJ w0 w' D d S ∧ Chg (fun _ => False) w w' := by
  subst hX
  obtain ⟨h3, h4, lv, wv, h5, h6⟩ := h
  refine (readj_ok w D lv wv d lo n h5 hd h1 hr hm hk hlen).mono ?_
  rintro e w' ⟨v', out, F, rfl, g1, g2, g3, c⟩
  exact ⟨v', out, F, rfl, g1, g2, g3, DJ.same ⟨h3, h4, lv, wv, h5, h6⟩ c, c⟩
/-- A journal that isn't written keeps. -/
theorem JIs.off {w0 w w' : World} {J' D lo n turn next : Nat} {S : Nat → Prop} (h : JIs w J' D lo n turn next) {T : Nat → Prop} (c : Chg T w w') (hT : ∀ k, k < w.heap.size → T k → w0.heap.size ≤ k ∧ ¬ S k) (hS : S J') : JIs w' J' D lo n turn next :=
  h.kept c (fun ht => (hT J' h.lt ht).2 hS)
end Go.Proofs.Ytjhkhdockiocgaa
