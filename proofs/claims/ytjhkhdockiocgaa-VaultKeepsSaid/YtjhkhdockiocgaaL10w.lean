/- JournalWhole: the walk. -/
import Derived.Test.YtjhkhdockiocgaaL10
namespace Go.Proofs.Ytjhkhdockiocgaa
open Go.RowKit Go.Cat

/-- A row of the call's own whose slices came in as arguments. -/
def KR (w0 w : World) (v : Value) (ls : List (List UInt8)) : Prop := ∃ vs, Owns w 1 v ls.length vs ∧ (∀ (i : Nat) u l, vs[i]? = some u → ls[i]? = some l → RBz w0 u l) ∧ ∀ q, v.ownBlock = some q → w0.heap.size ≤ q
theorem KR.nil (w0 w : World) : KR w0 w (.slice none 0 0) [] := ⟨[], Owns.nil w 1, by simp, by simp [Value.ownBlock]⟩
theorem KR.form {w0 w : World} {v : Value} {ls : List (List UInt8)} (h : KR w0 w v ls) : ∃ a c, v = .slice a ls.length c := by obtain ⟨vs, h1, _⟩ := h; exact h1.form
theorem KR.rbs {w0 w : World} {v : Value} {ls : List (List UInt8)} (h : KR w0 w v ls) (c : Chg (fun _ => False) w0 w) : RBs w v ls := by
  obtain ⟨vs, h1, h2, _⟩ := h
  exact ⟨vs, h1.reads, fun i u l hu hl => (h2 i u l hu hl).same c⟩
theorem KR.kept {w0 w w' : World} {v : Value} {ls : List (List UInt8)} (h : KR w0 w v ls) {T : Nat → Prop} (c : Chg T w w') (hT : ∀ k, k < w.heap.size → T k → w0.heap.size ≤ k ∧ ¬ v.ownBlock = some k) : KR w0 w' v ls := by
  obtain ⟨vs, h1, h2, h3⟩ := h
  exact ⟨vs, h1.kept c (fun q hq ht => (hT q (h1.lt q hq) ht).2 hq), h2, h3⟩
theorem KR.push {w0 w w3 : World} {v v' u : Value} {ls : List (List UInt8)} {l : List UInt8} {vs : List Value} (h1 : Owns w 1 v ls.length vs) (h2 : ∀ (i : Nat) u l, vs[i]? = some u → ls[i]? = some l → RBz w0 u l) (h3 : ∀ q, v.ownBlock = some q → w0.heap.size ≤ q) (hw : w0.heap.size ≤ w.heap.size)
    (hu : RBz w0 u l) (own3 : Owns w3 1 v' (ls.length + 1) (vs ++ [u])) (in3 : ∀ k, v'.ownBlock = some k → v.ownBlock = some k ∨ w.heap.size ≤ k) : KR w0 w3 v' (ls ++ [l]) := by
  have hvl : vs.length = ls.length := by have := h1.1; omega
  refine ⟨vs ++ [u], by rw [List.length_append]; exact own3, fun i x m hx hm => ?_, fun q hq => ?_⟩
  · rcases Nat.lt_or_ge i vs.length with hi | hi
    · rw [List.getElem?_append_left hi] at hx
      rw [List.getElem?_append_left (by omega)] at hm
      exact h2 i x m hx hm
    · have hil := (List.getElem?_eq_some_iff.1 hx).1
      simp at hil
      obtain rfl : i = vs.length := by omega
      rw [List.getElem?_append_right (Nat.le_refl _)] at hx
      rw [List.getElem?_append_right (by omega), hvl] at hm
      simp at hx hm
      subst hx; subst hm
      exact hu
  · rcases in3 q hq with h | h
    · exact h3 q h
    · omega
/-- The journal's block, and the row's. -/
def SK (J : Nat) (v : Value) (q : Nat) : Prop := q = J ∨ v.ownBlock = some q

set_option maxRecDepth 100000 in
set_option maxHeartbeats 8000000 in
theorem whole10 (s : Nat) (lv : Value) (L : List (List UInt8)) (w : World) (hs : s < 256) (hL : RBs w lv L) :
    Calls Try.prog 7 #[.int .u8 s, lv] w fun e w' => e = .returned (.bool true) ∧ Chg (fun _ => False) w w' := by
  obtain ⟨la, lc, rfl⟩ := hL.form
  have HL := Lib.hid hL
  clear hL
  go_enter Try.func7, Try.ntmps7
  go_wp2_with fail
  refine (lives10 _).mono ?_
  rintro e w1 ⟨rfl, c1⟩
  have C1 := Lib.hid c1
  clear c1
  by_cases h30 : 30 < L.length
  · have i30 : (30 : Int) < L.length := by omega
    go_wp2_with fail
    refine (lives10 _).mono ?_
    rintro e w2 ⟨rfl, c2⟩
    go_wp2_with fail
    go_ret
    exact ⟨rfl, C1.out.trans c2⟩
  have i30 : ¬ (30 : Int) < L.length := by omega
  clear h30
  obtain ⟨m, hm⟩ : ∃ m, m = L.length := ⟨_, rfl⟩
  have HM := Lib.hid hm
  rw [← hm] at i30 ⊢
  clear hm
  obtain ⟨n, hn⟩ : ∃ n : Nat, n = 1 + s % 60 := ⟨_, rfl⟩
  have hn1 : 1 ≤ n := by omega
  have hn2 : n ≤ 60 := by omega
  have e1 : (1 : Int) + (s : Int) % 60 = n := by omega
  have e2 : (1 : Int) + (s : Int).tmod 60 = n := by rw [Int.tmod_eq_emod_of_nonneg (by omega)]; omega
  have E1 := Lib.hid e1
  clear hn e1 e2
  go_wp2_with fail
  refine (ju_new w1 w1 70 3 n 9 (by omega) (by omega) (Chg.refl _ _) (by omega) (by omega) (by omega)).mono ?_
  rintro e w2 ⟨D, rfl, h2, c2⟩
  have H2 := Lib.hid h2
  clear h2 c2
  go_wp2_with fail
  rw [E1.out]
  refine (ju_newj H2.out 3 n 9 (by omega) (by omega) (by omega)).mono ?_
  rintro e w3 ⟨J, rfl, h3, j3, z3, c3⟩
  have H3 : Hid (JU w1 w3 D 70 3 n 9 (fun o => ¬ sound o) [] [] (SK J (.slice none 0 0))) := h3.kept (Chg.refl (fun _ => False) w3) (fun _ _ h => h.elim) (fun k hk => .inl (by
    rcases hk with hk | hk
    · exact .inr hk
    · simp [Value.ownBlock] at hk))
  have J3 := Lib.hid j3
  clear h3 j3 z3 c3 H2
  go_wp2_with fail
  have HL1 := Lib.hid (HL.out.same C1.out)
  clear HL E1
  go_loopw [10, 11, 44] (fun kv used i wr => ∃ (k : Nat) (kept : List (List UInt8)), k ≤ m ∧ i = .int .i64 k ∧ used = .int .i64 (total kept) ∧ kept.length ≤ k ∧ Hid (JU w1 wr D 70 3 n 9 (fun o => ¬ sound o) kept [] (SK J kv)) ∧ Hid (JIs wr J D 3 n 9 (total kept + total [])) ∧ Hid (KR w1 wr kv kept) ∧ Hid (∀ q, kv.ownBlock = some q → q ≠ J)) (fun _ _ i _ => m - (intOf i).toNat)
  case atStart => exact ⟨0, [], by omega, rfl, rfl, by simp, H3.out, J3.out, KR.nil _ _, fun q h => by simp [Value.ownBlock] at h⟩
  case round =>
    obtain ⟨k, kept, hk, rfl, rfl, hkl, hJU, hJI, hKR, hSEP⟩ := hrel
    have hfit := hJU.out.fits
    have hfit1 : total kept ≤ n := by have := hfit.1; simp only [total] at this; omega
    have hchg := hJU.out.chg
    have hsz := hchg.size
    have CH := Lib.hid hchg
    obtain ⟨T, hT⟩ : ∃ T, T = total kept := ⟨_, rfl⟩
    have HTT := Lib.hid hT
    have hJI' : Hid (JIs wr J D 3 n 9 T) := by rw [HTT.out]; exact hJI.out
    rw [← hT] at hfit1 ⊢
    clear hfit hchg hT
    by_cases hlt : k < m
    · obtain ⟨l, hl⟩ := getElem?_some_lt (show k < L.length by rw [← HM.out]; exact hlt)
      obtain ⟨g, o, u, uc, rfl, q1, z1⟩ := HL1.out.at_ k l hl
      have q2 := CH.out.cell q1 (fun h => h)
      have Z1 := Lib.hid z1
      clear hl q1 z1
      by_cases h200 : 200 < l.length
      · have i2 : (200 : Int) < l.length := by omega
        go_wp2_with fail
        go_ret
        exact ⟨rfl, C1.out.trans CH.out⟩
      have i2 : ¬ (200 : Int) < l.length := by omega
      have hl600 : l.length ≤ 600 := by omega
      have hcl := costN_le hl600
      have hcp := costN_pos l.length
      have CO := Lib.hid (fun w => cost10 l.length w (by omega))
      obtain ⟨q, hq⟩ : ∃ q, q = costN l.length := ⟨_, rfl⟩
      have HQ := Lib.hid hq
      rw [← hq] at hcl hcp CO
      by_cases hfull : n < T + q
      · have FU := Lib.hid (commitj_full wr J D 3 n 9 T u l.length uc hJI'.out (by omega) hfit1 (by omega) (by rw [← HQ.out]; exact hfull))
        have i3 : (n : Int) < (T : Int) + q := by omega
        clear hq h200
        go_wp2_with fail
        refine FU.out.mono ?_
        rintro e w5 ⟨rfl, c5⟩
        have C5 := Lib.hid c5
        clear c5 q2
        go_wp2_with fail
        refine (CO.out _).mono ?_
        rintro e w' ⟨rfl, rfl⟩
        go_wp2_with fail
        exact ⟨⟨k + 1, kept, by omega, rfl, by rw [HTT.out], by omega, hJU.out.same C5.out, hJI.out.kept C5.out (fun h => h), hKR.out.kept C5.out (fun _ _ h => h.elim), hSEP.out⟩, by simp only [intOf]; omega⟩
      · have CM := Lib.hid (ju_commit hJU.out J (.slice u l.length uc) l hJI.out (.inl rfl) (Z1.out.same CH.out) hl600 (by simp only [total]; rw [← HTT.out, ← HQ.out]; omega) (by omega) (by omega))
        have i3 : ¬ (n : Int) < (T : Int) + q := by omega
        clear hq h200
        go_wp2_with fail
        refine CM.out.mono ?_
        rintro e w5 ⟨rfl, h5, j5, T5, c5, t5⟩
        have hsl := hJU.out.S_lt
        have hkr := hKR.out.kept c5 (fun a ha ht => ⟨(t5 a ha ht).1, fun hkv => hSEP.out a hkv ((t5 a ha ht).2 (.inr hkv))⟩)
        obtain ⟨vs, r1, r2, r3⟩ := hkr
        have H5 := Lib.hid h5
        have J5 := Lib.hid j5
        have R2 := Lib.hid r2
        have R3 := Lib.hid r3
        have C5 := Lib.hid c5
        have hz5 := c5.size
        clear h5 j5 c5 t5 q2 hsl r2 r3
        go_wp2_with fail
        refine (CO.out _).mono ?_
        rintro e w' ⟨rfl, rfl⟩
        go_wp2_with fail
        refine (CO.out _).mono ?_
        rintro e w' ⟨rfl, rfl⟩
        go_wp2_with (at_builtin; go_loud (refine wpList_app_one rfl _ _ 43 rfl 33 (.slice none 0 0) 1 24 Try.underlying43 Try.infoBs rfl u10 kept.length vs [.slice u l.length uc] _ rfl rfl r1 rfl (by simp [Value.oneCell']) (by simp only [maxLen]; omega) (by omega) ?_; intro v' w6 own6 c6 in6 nn6))
        have hT' : total (kept ++ [l]) = T + q := by rw [total_snoc, ← HTT.out, ← HQ.out]
        refine ⟨⟨k + 1, kept ++ [l], by omega, rfl, by rw [hT']; rfl, by simp; omega, ?_, ?_, ?_, ?_⟩, by simp only [intOf]; omega⟩
        · have h7 := H5.out
          rw [List.append_nil] at h7
          exact h7.kept c6 (fun a _ ha => .inr ha) (fun a ha => by
            rcases ha with ha | ha
            · exact .inl (.inl ha)
            · rcases in6 a ha with h8 | h8
              · exact .inl (.inr h8)
              · exact .inr ⟨h8, own6.lt a ha⟩)
        · have h7 := J5.out
          rw [List.append_nil] at h7
          exact h7.kept c6 (fun ha => hSEP.out J ha rfl)
        · exact KR.push r1 R2.out R3.out (by omega) Z1.out own6 in6
        · intro a ha e
          rcases in6 a ha with h8 | h8
          · exact hSEP.out a h8 e
          · have := J5.out.lt; omega
    · obtain rfl : k = m := by omega
      obtain ⟨ka, kc, rfl⟩ := hKR.out.form
      have RD := Lib.hid (ju_read hJU.out (by omega) (by omega) hn1 (.inr (fun _ h => h)))
      obtain ⟨kn, hkn⟩ : ∃ kn, kn = kept.length := ⟨_, rfl⟩
      have HKN := Lib.hid hkn
      have KRB := Lib.hid (hKR.out.rbs CH.out)
      rw [← hkn] at KRB hkl ⊢
      clear hkn
      go_wp2_with fail
      refine RD.out.mono ?_
      rintro e w5 ⟨v, F, t', rfl, h5, hF, ht, h6, c6⟩
      have BG := Lib.hid (fun w => begins_true v (.slice ka kn kc) (.slice none 0 0) (kept ++ []) kept [] [] w)
      have B5 := Lib.hid (BG.out w5 h5.rbs (KRB.out.same c6) ⟨[], Reads.nil w5 1, by simp⟩ (List.prefix_refl _) rfl (by rw [← HKN.out]; simp; omega))
      have NX := Lib.hid (nextj w5 J D 3 n 9 T (hJI'.out.kept c6 (fun h => h)))
      obtain ⟨va, vc, rfl⟩ := h5.form
      rw [List.append_nil] at *
      have H6 := Lib.hid h6.chg
      clear BG h5 hF h6 c6
      by_cases h0 : kn = 0
      · subst h0
        go_wp2_with fail
        refine B5.out.mono ?_
        rintro e w' ⟨rfl, rfl⟩
        go_wp2_with fail
        refine NX.out.mono ?_
        rintro e w' ⟨rfl, rfl⟩
        go_wp2_with fail
        go_ret
        exact ⟨rfl, C1.out.trans H6.out⟩
      · obtain rfl : t' = 9 := ht (fun h => h0 (by rw [HKN.out, h]; rfl))
        have z0 : ((kn : Int) == 0) = false := by simp; omega
        clear ht
        go_wp2_with fail
        refine B5.out.mono ?_
        rintro e w' ⟨rfl, rfl⟩
        go_wp2_with fail
        refine NX.out.mono ?_
        rintro e w' ⟨rfl, rfl⟩
        go_wp2_with fail
        go_ret
        exact ⟨rfl, C1.out.trans H6.out⟩
end Go.Proofs.Ytjhkhdockiocgaa
