/- A device with one journal, the device's insides hidden: what the laws' walks use. -/
import Derived.Test.YtjhkhdockiocgaaJourInv
namespace Go.Proofs.Ytjhkhdockiocgaa
open Go.RowKit Go.Cat

theorem crashTo_zero (torn bytes : Int) (l : List (List UInt8)) (ws : List (Nat × List UInt8)) : ∀ k, crashTo 0 torn bytes l ws k = l
  | 0 => rfl
  | k + 1 => by
    simp only [crashTo]
    cases ws[k]? with
    | none => exact crashTo_zero torn bytes l ws k
    | some x => simp [crashStep, crashTo_zero torn bytes l ws k]
theorem JInv.lost {d d' : Dev} {lo n t : Nat} {Old : List UInt8 → Prop} {done behind : List (List UInt8)} (h : JInv d lo n t Old done behind) (hl : d'.l = d.l) (hw : d'.waits = []) : JInv d' lo n t Old done [] :=
  ⟨by rw [hl]; exact h.len, by rw [hl]; exact h.l64, fun i hi => by rw [hl]; exact h.there i hi, fun i h1 h2 => by rw [hl]; exact h.old i h1 h2, by rw [hw]; rfl, by have := h.fits; simp only [total]; omega, h.nn⟩
theorem fresh_new (k lo n t : Nat) (hlen : lo + n ≤ k) (ht : t < 4294967296) (h0 : t ≠ 0) (hn : n ≤ 8192) : JInv ⟨List.replicate k (zb 64), [], false, 0, 0, 0, 0⟩ lo n t (fun o => ¬ sound o) [] [] :=
  JInv.fresh (by simpa using hlen) (fun x hx => by rw [(List.mem_replicate.1 hx).2]; simp) (fun i hi => by show (List.replicate k (zb 64))[lo + i]? = _; rw [List.getElem?_replicate, if_pos (by omega)]) rfl ht h0 hn

/-- A device of N sectors that is up, made since w0; a journal of turn t in its n sectors from lo on. -/
def JU (w0 w : World) (D N lo n t : Nat) (Old : List UInt8 → Prop) (done behind : List (List UInt8)) (S : Nat → Prop) : Prop := ∃ d, DJ w0 w D d S ∧ JInv d lo n t Old done behind ∧ d.down = false ∧ d.left = 0 ∧ d.l.length = N
/-- The same behind a crash: what is read of it. -/
def CU (w0 w : World) (D N lo n t : Nat) (done behind : List (List UInt8)) (S : Nat → Prop) (up : Bool) : Prop := ∃ d, DJ w0 w D d S ∧ d.waits = [] ∧ d.l.length = N ∧ lo + n ≤ N ∧ (∀ x ∈ d.l, x.length = 64) ∧ (up = true → d.down = false ∧ d.left = 0) ∧
  KnownAll (readOf d.l [] lo n) ∧ (readOf d.l [] lo n).length = n ∧ ∀ out, Recs (turnB ((readOf d.l [] lo n).headD [])) (readOf d.l [] lo n) out → (∃ p, p <+: behind ∧ out = done ++ p) ∧ (done ≠ [] → turnB ((readOf d.l [] lo n).headD []) = t)
variable {w0 w : World} {D N lo n t : Nat} {Old : List UInt8 → Prop} {done behind : List (List UInt8)} {S : Nat → Prop}
theorem JU.kept {w' : World} {S' : Nat → Prop} (h : JU w0 w D N lo n t Old done behind S) {T : Nat → Prop} (c : Chg T w w') (hT : ∀ k, k < w.heap.size → T k → S k) (hS : ∀ k, S' k → S k ∨ (w.heap.size ≤ k ∧ k < w'.heap.size)) : JU w0 w' D N lo n t Old done behind S' := by
  obtain ⟨d, h1, h2⟩ := h
  exact ⟨d, h1.kept c hT hS, h2⟩
theorem JU.same {w' : World} (h : JU w0 w D N lo n t Old done behind S) (c : Chg (fun _ => False) w w') : JU w0 w' D N lo n t Old done behind S := h.kept c (fun _ _ h => h.elim) (fun _ h => .inl h)
theorem CU.kept {w' : World} {S' : Nat → Prop} {up : Bool} (h : CU w0 w D N lo n t done behind S up) {T : Nat → Prop} (c : Chg T w w') (hT : ∀ k, k < w.heap.size → T k → S k) (hS : ∀ k, S' k → S k ∨ (w.heap.size ≤ k ∧ k < w'.heap.size)) : CU w0 w' D N lo n t done behind S' up := by
  obtain ⟨d, h1, h2⟩ := h
  exact ⟨d, h1.kept c hT hS, h2⟩
theorem CU.same {w' : World} {up : Bool} (h : CU w0 w D N lo n t done behind S up) (c : Chg (fun _ => False) w w') : CU w0 w' D N lo n t done behind S up := h.kept c (fun _ _ h => h.elim) (fun _ h => .inl h)
theorem JU.chg (h : JU w0 w D N lo n t Old done behind S) : Chg (fun _ => False) w0 w := by obtain ⟨d, h1, _⟩ := h; exact h1.1
theorem CU.chg {up : Bool} (h : CU w0 w D N lo n t done behind S up) : Chg (fun _ => False) w0 w := by obtain ⟨d, h1, _⟩ := h; exact h1.1
theorem JU.fits (h : JU w0 w D N lo n t Old done behind S) : total done + total behind ≤ n ∧ lo + n ≤ N ∧ n ≤ 8192 := by
  obtain ⟨d, h1, h2, _, _, h5⟩ := h
  exact ⟨h2.fits, by rw [← h5]; exact h2.len, h2.nn⟩
theorem JU.S_lt (h : JU w0 w D N lo n t Old done behind S) : ∀ k, S k → w0.heap.size ≤ k ∧ k < w.heap.size := by obtain ⟨d, h1, _⟩ := h; exact h1.2.1
theorem CU.S_lt {up : Bool} (h : CU w0 w D N lo n t done behind S up) : ∀ k, S k → w0.heap.size ≤ k ∧ k < w.heap.size := by obtain ⟨d, h1, _⟩ := h; exact h1.2.1
/-- Another journal's view: of the sectors as they stand, all flushed. -/
theorem JU.turn (h : JU w0 w D N lo n t Old done [] S) {t' : Nat} {Old' : List UInt8 → Prop} (hi : ∀ d, JInv d lo n t Old done [] → JInv d lo n t' Old' [] []) : JU w0 w D N lo n t' Old' [] [] S := by
  obtain ⟨d, h1, h2, h3⟩ := h
  exact ⟨d, h1, hi d h2, h3⟩
theorem ju_new (w0 w : World) (N lo n t : Nat) (h1 : 1 ≤ N) (h2 : N ≤ 8192) (hc : Chg (fun _ => False) w0 w) (hlen : lo + n ≤ N) (ht : t < 4294967296) (h0 : t ≠ 0) :
    Calls Try.prog 24 #[.int .i64 N] w fun e w' => ∃ D, e = .returned (.tuple #[.pointer (some ⟨D, 0, none⟩), .int .i64 0]) ∧ JU w0 w' D N lo n t (fun o => ¬ sound o) [] [] (fun _ => False) ∧ Chg (fun _ => False) w w' := by
  refine (dj_new w0 w N h1 h2 hc).mono ?_
  rintro e w' ⟨D, rfl, h3, c⟩
  exact ⟨D, rfl, ⟨_, h3, fresh_new N lo n t hlen ht h0 (by omega), rfl, rfl, by simp⟩, c⟩
theorem ju_newj (h : JU w0 w D N lo n t Old done behind S) (lo' n' t' : Nat) (ht : t' ≠ 0) (h1 : 1 ≤ n') (h2 : lo' + n' ≤ N) :
    Calls Try.prog 25 #[.pointer (some ⟨D, 0, none⟩), .int .i64 lo', .int .i64 n', .int .u32 t'] w fun e w' => ∃ J, e = .returned (.tuple #[.pointer (some ⟨J, 0, none⟩), .int .i64 0]) ∧ JU w0 w' D N lo n t Old done behind (fun k => S k ∨ k = J) ∧ JIs w' J D lo' n' t' 0 ∧ w.heap.size ≤ J ∧ Chg (fun _ => False) w w' := by
  obtain ⟨d, h3, h4, h5, h6, h7⟩ := h
  refine (dj_newj w0 w D d S h3 lo' n' t' ht h1 (by rw [h7]; exact h2)).mono ?_
  rintro e w' ⟨J, rfl, g1, g2, g3, g4⟩
  exact ⟨J, rfl, ⟨d, g1, h4, h5, h6, h7⟩, g2, g3, g4⟩
theorem ju_wl {d : Dev} (h : JInv d lo n t Old done behind) : d.waits.length ≤ 8192 := by
  rw [h.waits, wat_length, secsOf_length]
  have := h.fits; have := h.nn; omega
theorem ju_write (h : JU w0 w D N lo n t Old done behind S) (J : Nat) (v : Value) (l : List UInt8) (hj : JIs w J D lo n t (total done + total behind)) (hJ : S J) (hv : RBz w v l) (hl : l.length ≤ 600) (hfit : total done + total behind + costN l.length ≤ n) (ht : t < 4294967296) (h0 : t ≠ 0) :
    Calls Try.prog 27 #[.pointer (some ⟨J, 0, none⟩), v] w fun e w' => e = .returned (.int .i64 0) ∧ JU w0 w' D N lo n t Old done (behind ++ [l]) S ∧ JIs w' J D lo n t (total done + total (behind ++ [l])) ∧
      ∃ T, Chg T w w' ∧ ∀ k, k < w.heap.size → T k → w0.heap.size ≤ k ∧ (S k → k = J) := by
  obtain ⟨d, h3, h4, h5, h6, h7⟩ := h
  refine (dj_write w0 w J D lo n t _ d S v l h3 hj hJ hv h5 h6 h4.len hl hfit ht h0 (by have := ju_wl h4; omega)).mono ?_
  rintro e w' ⟨rfl, g1, g2, g3⟩
  exact ⟨rfl, ⟨_, g1, h4.write l hfit, h5, h6, h7⟩, by rw [total_snoc, ← Nat.add_assoc]; exact g2, g3⟩
theorem ju_commit (h : JU w0 w D N lo n t Old done behind S) (J : Nat) (v : Value) (l : List UInt8) (hj : JIs w J D lo n t (total done + total behind)) (hJ : S J) (hv : RBz w v l) (hl : l.length ≤ 600) (hfit : total done + total behind + costN l.length ≤ n) (ht : t < 4294967296) (h0 : t ≠ 0) :
    Calls Try.prog 26 #[.pointer (some ⟨J, 0, none⟩), v] w fun e w' => e = .returned (.int .i64 0) ∧ JU w0 w' D N lo n t Old (done ++ behind ++ [l]) [] S ∧ JIs w' J D lo n t (total (done ++ behind ++ [l]) + total []) ∧
      ∃ T, Chg T w w' ∧ ∀ k, k < w.heap.size → T k → w0.heap.size ≤ k ∧ (S k → k = J) := by
  obtain ⟨d, h3, h4, h5, h6, h7⟩ := h
  refine (dj_commit w0 w J D lo n t _ d S v l h3 hj hJ hv h5 h6 h4.len hl hfit ht h0 (by have := ju_wl h4; omega)).mono ?_
  rintro e w' ⟨rfl, g1, g2, g3⟩
  have hc := h4.commit l hfit
  refine ⟨rfl, ⟨_, g1, hc, h5, h6, ?_⟩, by rw [total_snoc, total_append]; exact g2, g3⟩
  have e1 := (h4.write l hfit)
  have e2 : (flushTo d.l (d.waits ++ wat (lo + (total done + total behind)) (recSecs t (total done + total behind) l))).length = d.l.length := by
    have hw : d.waits ++ wat (lo + (total done + total behind)) (recSecs t (total done + total behind) l) = wat (lo + total done) (secsOf t (total done) (behind ++ [l])) := e1.waits
    rw [hw]
    have hsl := secsOf_length t (behind ++ [l]) (total done)
    exact (flushTo_wat _ _ _ (by rw [hsl, total_snoc]; have := h4.len; omega)).1
  show (flushTo d.l _).length = N
  rw [e2]; exact h7
theorem ju_read (h : JU w0 w D N lo n t Old done behind S) (ht : t < 4294967296) (h0 : t ≠ 0) (hpos : 1 ≤ n) (hO : done ++ behind ≠ [] ∨ ∀ o, Old o → ¬ sound o) :
    Calls Try.prog 30 #[.pointer (some ⟨D, 0, none⟩), .int .i64 lo, .int .i64 n] w fun e w' => ∃ (v' : Value) (F : Nat → Prop) (t' : Nat), e = .returned (.tuple #[v', .int .u32 t', .int .i64 0]) ∧ OutsF w' F v' (done ++ behind) ∧ (∀ q, F q → w.heap.size ≤ q) ∧ (done ++ behind ≠ [] → t' = t) ∧
      JU w0 w' D N lo n t Old done behind S ∧ Chg (fun _ => False) w w' := by
  obtain ⟨d, h3, h4, h5, h6, h7⟩ := h
  have hr := h4.read (out := done ++ behind) ht h0 hpos hO
  refine (dj_read w0 w D lo n d S h3 h5 hpos h4.len (by have := ju_wl h4; omega) _ rfl hr.1 hr.2.1).mono ?_
  rintro e w' ⟨v', out, F, rfl, g1, g2, g3, g4, c⟩
  obtain ⟨e1, e2⟩ := (h4.read (out := out) ht h0 hpos hO).2.2 g3
  subst e1
  exact ⟨v', F, _, rfl, g1, g2, e2, ⟨d, g4, h4, h5, h6, h7⟩, c⟩
theorem ju_crash (h : JU w0 w D N lo n t Old done behind S) (keep : Nat) (torn bytes : Int) (ht : t < 4294967296) (h0 : t ≠ 0) (hpos : 1 ≤ n) (hO : done ≠ [] ∨ ∀ o, Old o → ¬ sound o) :
    Calls Try.prog 28 #[.pointer (some ⟨D, 0, none⟩), .int .u64 keep, .int .i64 torn, .int .i64 bytes] w fun e w' => e = .returned (.tuple #[]) ∧ CU w0 w' D N lo n t done behind S false ∧ ∃ T, Chg T w w' ∧ ∀ k, k < w.heap.size → T k → w0.heap.size ≤ k ∧ ¬ S k := by
  obtain ⟨d, h3, h4, h5, h6, h7⟩ := h
  refine (dj_crash w0 w D d S keep torn bytes h3 (by have := ju_wl h4; omega)).mono ?_
  rintro e w' ⟨rfl, g1, g2⟩
  have hc := fun out => h4.crash (out := out) keep torn bytes ht h0 hpos hO _ rfl
  obtain ⟨k1, k2, k3, k4, _⟩ := hc []
  refine ⟨rfl, ⟨_, g1, rfl, by rw [← h7]; exact k1, by rw [← h7]; exact h4.len, k2, fun h => (by cases h), k3, k4, fun out hr => (hc out).2.2.2.2 hr⟩, g2⟩
theorem ju_crash0 (h : JU w0 w D N lo n t Old done behind S) (torn bytes : Int) (ht : t < 4294967296) (h0 : t ≠ 0) (hpos : 1 ≤ n) (hO : done ≠ [] ∨ ∀ o, Old o → ¬ sound o) :
    Calls Try.prog 28 #[.pointer (some ⟨D, 0, none⟩), .int .u64 0, .int .i64 torn, .int .i64 bytes] w fun e w' => e = .returned (.tuple #[]) ∧ CU w0 w' D N lo n t done [] S false ∧ ∃ T, Chg T w w' ∧ ∀ k, k < w.heap.size → T k → w0.heap.size ≤ k ∧ ¬ S k := by
  obtain ⟨d, h3, h4, h5, h6, h7⟩ := h
  refine (dj_crash w0 w D d S 0 torn bytes h3 (by have := ju_wl h4; omega)).mono ?_
  rintro e w' ⟨rfl, g1, g2⟩
  rw [crashTo_zero] at g1
  have hj : JInv { d with waits := [] } lo n t Old done [] := h4.lost rfl rfl
  have hc := fun out => hj.crash (out := out) 0 torn bytes ht h0 hpos hO d.l rfl
  obtain ⟨k1, k2, k3, k4, _⟩ := hc []
  exact ⟨rfl, ⟨_, g1, rfl, h7, by rw [← h7]; exact h4.len, k2, fun h => (by cases h), k3, k4, fun out hr => (hc out).2.2.2.2 hr⟩, g2⟩
theorem cu_up {up : Bool} (h : CU w0 w D N lo n t done behind S up) :
    Calls Try.prog 29 #[.pointer (some ⟨D, 0, none⟩)] w fun e w' => e = .returned (.tuple #[]) ∧ CU w0 w' D N lo n t done behind S true ∧ ∃ T, Chg T w w' ∧ ∀ k, k < w.heap.size → T k → w0.heap.size ≤ k ∧ ¬ S k := by
  obtain ⟨d, h3, h4, h5, h6, h7, h8, h9⟩ := h
  refine (dj_up w0 w D d S h3).mono ?_
  rintro e w' ⟨rfl, g1, g2⟩
  exact ⟨rfl, ⟨_, g1, h4, h5, h6, h7, fun _ => ⟨rfl, rfl⟩, h9⟩, g2⟩
theorem cu_read (h : CU w0 w D N lo n t done behind S true) (hpos : 1 ≤ n) :
    Calls Try.prog 30 #[.pointer (some ⟨D, 0, none⟩), .int .i64 lo, .int .i64 n] w fun e w' => ∃ (v' : Value) (F : Nat → Prop) (t' : Nat) (p : List (List UInt8)), e = .returned (.tuple #[v', .int .u32 t', .int .i64 0]) ∧ p <+: behind ∧ OutsF w' F v' (done ++ p) ∧ (∀ q, F q → w.heap.size ≤ q) ∧ (done ≠ [] → t' = t) ∧
      CU w0 w' D N lo n t done behind S true ∧ Chg (fun _ => False) w w' := by
  obtain ⟨d, h3, h4, h5, h6, h7, h8, h9, h10, h11⟩ := h
  have hX : readOf d.l d.waits lo n = readOf d.l [] lo n := by rw [h4]
  refine (dj_read w0 w D lo n d S h3 (h8 rfl).1 hpos (by rw [h5]; exact h6) (by rw [h4]; simp) _ hX h9 h10).mono ?_
  rintro e w' ⟨v', out, F, rfl, g1, g2, g3, g4, c⟩
  obtain ⟨⟨p, hp, e1⟩, e2⟩ := h11 out g3
  subst e1
  exact ⟨v', F, _, p, rfl, hp, g1, g2, e2, ⟨d, g4, h4, h5, h6, h7, h8, h9, h10, h11⟩, c⟩
theorem ju_wipe (h : JU w0 w D N lo n t Old done behind S) (lo' n' : Nat) (hpos : 1 ≤ n') (hin : lo' + n' ≤ N) :
    Calls Try.prog 36 #[.pointer (some ⟨D, 0, none⟩), .int .i64 lo', .int .i64 n'] w fun e w' => e = .returned (.int .i64 0) ∧ Chg (fun _ => False) w0 w' := by
  obtain ⟨d, h3, h4, h5, h6, h7⟩ := h
  refine (dj_wipe w0 w D lo' n' d S h3 h5 h6 hpos (by rw [h7]; exact hin) (by have := ju_wl h4; omega)).mono ?_
  rintro e w' ⟨rfl, g1, g2⟩
  exact ⟨rfl, g1.1⟩
/-- The device in it. -/
theorem JU.dev (h : JU w0 w D N lo n t Old done behind S) : ∃ lv wv d, DevIs w D lv wv d ∧ d.l.length = N := by
  obtain ⟨d, ⟨_, _, lv, wv, h1, _⟩, _, _, _, h2⟩ := h
  exact ⟨lv, wv, d, h1, h2⟩
theorem cu_wipe (h : CU w0 w D N lo n t done behind S true) (hpos : 1 ≤ n) (hn : n ≤ 8192) (t' : Nat) (ht : t' < 4294967296) (h0 : t' ≠ 0) :
    Calls Try.prog 36 #[.pointer (some ⟨D, 0, none⟩), .int .i64 lo, .int .i64 n] w fun e w' => e = .returned (.int .i64 0) ∧ JU w0 w' D N lo n t' (fun o => ¬ sound o) [] [] S ∧ ∃ T, Chg T w w' ∧ ∀ k, k < w.heap.size → T k → w0.heap.size ≤ k ∧ ¬ S k := by
  obtain ⟨d, h3, h4, h5, h6, h7, h8, h9, h10, h11⟩ := h
  refine (dj_wipe w0 w D lo n d S h3 (h8 rfl).1 (h8 rfl).2 hpos (by rw [h5]; exact h6) (by rw [h4]; simp)).mono ?_
  rintro e w' ⟨rfl, g1, g2⟩
  rw [h4, List.nil_append] at g1
  obtain ⟨k1, k2, k3⟩ := wiped_at (l := d.l) (lo := lo) (n := n) (by rw [h5]; exact h6) h7
  exact ⟨rfl, ⟨_, g1, JInv.fresh (by show _ ≤ (flushTo d.l _).length; rw [k1, h5]; exact h6) k2 k3 rfl ht h0 hn, (h8 rfl).1, (h8 rfl).2, by rw [← h5]; exact k1⟩, g2⟩
end Go.Proofs.Ytjhkhdockiocgaa
