/- The law OctetWrites: its walk. -/
import Derived.Test.YtncgeeaifacapaaL03q
namespace Go.Proofs.Ytncgeeaifacapaa
open Go.RowKit Go.Cat

set_option maxRecDepth 100000 in
set_option maxHeartbeats 4000000 in
theorem writes_go (v : Value) (L : List Itm) (w : World) (hv : Reads w 4 v L.length (L.flatMap Itm.cells)) (hf : ∀ i ∈ L, i.fits) (hl : L.length ≤ 40) :
    Calls Try.prog 9 #[v] w fun e w' => e = .returned (.bool true) ∧ Chg (fun _ => False) w w' := by
  obtain ⟨va, vc, rfl⟩ := hv.form
  have g1 : ¬ (40 : Int) < L.length := by omega
  obtain ⟨n, hn⟩ : ∃ n, n = L.length := ⟨_, rfl⟩
  have HV := Lib.hid hv
  have HF := Lib.hid hf
  rw [← hn] at hl g1 HV ⊢
  have HN := Lib.hid hn
  clear hv hf hn
  go_enter Try.func9, Try.ntmps9
  go_wp2_with fail
  refine (lives03 w).mono ?_
  rintro e w1 ⟨rfl, c1⟩
  go_wp2_with fail
  have hst : KUp w (w1.alloc (.cells #[.slice none 0 0] 28)) w1.heap.size [] (.slice none 0 0) [] :=
    ⟨_, WriterAt.fresh w1 _, fun k hk => by subst hk; have := c1.size; simp; omega, Owns.nil _ _, by simp [Value.ownBlock], c1.alloc _⟩
  have HST := Lib.hid hst
  clear hst
  go_loopw [4, 5, 25] (fun o v i wr => ∃ (k : Nat) (K : List Itm), k ≤ n ∧ i = .int .i64 k ∧ o = .string ⟨(encs K).toArray⟩ ∧ Hid (KUp w wr w1.heap.size (encs K) v K) ∧ Hid (∀ x ∈ K, x.good ∧ x.fits) ∧ K.length ≤ k) (fun _ _ i _ => n - (intOf i).toNat)
  case atStart =>
    exact ⟨0, [], by omega, rfl, rfl, HST.out, by simp [Hid], by simp⟩
  case round =>
    obtain ⟨k, K, hk, rfl, rfl, hK, hG, hKk⟩ := hrel
    obtain ⟨ka, kc, rfl⟩ : ∃ ka kc, u5 = .slice ka K.length kc := by
      obtain ⟨S, _, _, h3, _⟩ := hK.out
      exact h3.form
    have cw : Chg (fun _ => False) w wr := by
      obtain ⟨S, _, _, _, _, h5⟩ := hK.out
      exact h5
    by_cases hlt : k < n
    · obtain ⟨it, hit⟩ : ∃ it, L[k]? = some it := ⟨_, List.getElem?_eq_getElem (by rw [← HN.out]; exact hlt)⟩
      have hfit : it.fits := HF.out it (List.mem_of_getElem? hit)
      have hkI : (k : Int) < n := by omega
      have hvr := HV.out.kept cw (fun _ _ h => h)
      obtain ⟨g, o, rfl⟩ : ∃ g o, va = some ⟨g, o, none⟩ := by
        rcases hvr.2 with ⟨hv, h0⟩ | ⟨g, o, c', hv, _⟩
        · omega
        · simp only [Value.slice.injEq] at hv; exact ⟨g, o, hv.1⟩
      have hcell : ∀ c u, c < 4 → it.cells[c]? = some u → wr.cell? ⟨g, o + (k * 4 + c), none⟩ = some u := by
        intro c u hc hu
        rcases hvr.2 with ⟨hv, h0⟩ | ⟨g', o', c', hv, _, _, _, h4⟩
        · simp at hv
        · simp only [Value.slice.injEq, Option.some.injEq, Addr.mk.injEq, and_true] at hv
          obtain ⟨⟨rfl, rfl⟩, _⟩ := hv
          exact h4 (k * 4 + c) u (by rw [rows_at (s := 4) (f := Itm.cells) L (fun _ _ => rfl) k c it hit hc]; exact hu)
      obtain ⟨kind, x, width, str⟩ := it
      have a0 : wr.cell? ⟨g, o + k * 4, none⟩ = some (.int .u8 kind) := hcell 0 _ (by omega) rfl
      have a1 : wr.cell? ⟨g, o + k * 4 + 1, none⟩ = some (.int .u64 x) := hcell 1 _ (by omega) rfl
      have a2 : wr.cell? ⟨g, o + k * 4 + 2, none⟩ = some (.int .i64 width) := hcell 2 _ (by omega) rfl
      have a3 : wr.cell? ⟨g, o + k * 4 + 3, none⟩ = some (.string ⟨str.toArray⟩) := hcell 3 _ (by omega) rfl
      obtain ⟨hf0, hf1, hf2, hf3⟩ := hfit
      simp only at hf0 hf1 hf2 hf3
      have hw1 : wrap64 ((k : Int) + 1) = (k : Int) + 1 := by unfold wrap64; omega
      have HIT := Lib.hid hit
      clear hvr hcell hit
      by_cases hlong : 200 < str.length
      · have hlI : (200 : Int) < str.length := by omega
        go_wp2_with fail
        go_ret
        exact ⟨rfl, cw.alloc _⟩
      · have hlI : ¬ (200 : Int) < str.length := by omega
        have hlen : (encs K).length ≤ 8080 := by
          have := encs_len K (fun x hx => (hG.out x hx).1)
          omega
        go_upto_block 2 with fail

        obtain ⟨wa, hwa⟩ : ∃ wa, wa = wr.alloc (.cells #[.int .u8 kind, .int .u64 x, .int .i64 width, .string ⟨str.toArray⟩] 73) := ⟨_, rfl⟩
        have ca : Chg (fun _ => False) wr wa := by rw [hwa]; exact (Chg.refl _ _).alloc _
        have hAa : wa.heap[wr.heap.size]? = some (.cells #[.int .u8 kind, .int .u64 x, .int .i64 width, .string ⟨str.toArray⟩] 73 (0, 0)) := by rw [hwa]; exact heap_at_new _ _ _ rfl
        have HAwa := Lib.hid hAa
        rw [← hwa]
        clear a0 a1 a2 a3 hwa hAa
        go_cut [4] from 27 to 110 (fun o wx => o = .string ⟨(encs (K ++ [⟨kind, x, width, str⟩])).toArray⟩ ∧ Hid (KUp w wx w1.heap.size (encs (K ++ [⟨kind, x, width, str⟩])) (.slice ka K.length kc) K) ∧ Hid (Itm.good ⟨kind, x, width, str⟩) ∧ Hid (wx.heap[wr.heap.size]? = some (.cells #[.int .u8 kind, .int .u64 x, .int .i64 width, .string ⟨str.toArray⟩] 73 (0, 0))))
        case first =>
          obtain ⟨S, h1, h2, h3, h4, h5⟩ := id hK.out
          have h1a : WriterAt wa S w1.heap.size (encs K) := h1.kept ca (fun _ _ h => h)
          have hnS : ¬ S wr.heap.size := fun h => by have := h2 _ h; omega
          have h2a : ∀ k, S k → w.heap.size ≤ k ∧ k < wa.heap.size := fun k hk => ⟨(h2 k hk).1, by have := (h2 k hk).2; have := ca.size; omega⟩
          have h3a : Owns wa 4 (.slice ka K.length kc) K.length (K.flatMap Itm.cells) := h3.kept ca (fun _ _ h => h)
          have h5a : Chg (fun _ => False) w wa := h5.trans ca
          clear h1 h2 h3 h5
          have a0 : wa.cell? ⟨wr.heap.size, 0, none⟩ = some (.int .u8 kind) := by rw [cell_of_heap HAwa.out]; rfl
          have a1 : wa.cell? ⟨wr.heap.size, 1, none⟩ = some (.int .u64 x) := by rw [cell_of_heap HAwa.out]; rfl
          have a2 : wa.cell? ⟨wr.heap.size, 2, none⟩ = some (.int .i64 width) := by rw [cell_of_heap HAwa.out]; rfl
          have a3 : wa.cell? ⟨wr.heap.size, 3, none⟩ = some (.string ⟨str.toArray⟩) := by rw [cell_of_heap HAwa.out]; rfl
          by_cases m0 : kind % 4 = 0
          · have e0 : ((kind : Int) % 4 == 0) = true := by simp; omega
            by_cases hW : isW width
            · by_cases h8 : width = 8
              · subst h8
                have HIW : Hid (isW (8 : Int)) := .inr (.inr (.inr rfl))
                have henc : (Itm.mk kind x 8 str).enc = be x 8 := by simp [Itm.enc, m0]
                have hR : x < 2 ^ (8 * (8 : Int).toNat) := by have := (show (2 : Nat) ^ (8 * Int.toNat 8) = 18446744073709551616 by decide); omega
                go_wp2_with fail
                refine (num_yes x 8 wa S _ _ (by omega) (by omega) HIW.out hR h1a (by omega)).mono ?_
                rintro e w3 ⟨rfl, hw3, c3⟩
                have k3 := KUp.wrote h2a h3a h4 h5a hw3 c3
                have hAw3 := (c3).heap HAwa.out hnS
                have HAw3 := Lib.hid hAw3
                clear hAw3
                clear a0 a1 a2 a3
                have a0 : w3.cell? ⟨wr.heap.size, 0, none⟩ = some (.int .u8 kind) := by rw [cell_of_heap HAw3.out]; rfl
                have a1 : w3.cell? ⟨wr.heap.size, 1, none⟩ = some (.int .u64 x) := by rw [cell_of_heap HAw3.out]; rfl
                have a2 : w3.cell? ⟨wr.heap.size, 2, none⟩ = some (.int .i64 8) := by rw [cell_of_heap HAw3.out]; rfl
                have a3 : w3.cell? ⟨wr.heap.size, 3, none⟩ = some (.string ⟨str.toArray⟩) := by rw [cell_of_heap HAw3.out]; rfl
                go_wp2_with fail
                refine (wide37 8 w3).mono ?_
                rintro e w4 ⟨rfl, rfl⟩
                rw [decide_eq_true HIW.out]
                go_wp2_with fail
                refine (num38 x 8 w3 hf1 (by omega)).mono ?_
                rintro e w4 ⟨rfl, c4⟩
                have hAw4 := (c4).heap HAw3.out (fun h => h)
                have HAw4 := Lib.hid hAw4
                clear hAw4
                go_wp2_with fail
                go_meet
                refine ⟨?_, ?_, ?_, HAw4⟩
                · rw [str_add3, encs_snoc, henc]
                · rw [encs_snoc, henc]; exact k3.same c4
                · exact ⟨by show str.length ≤ 200; omega, fun _ => ⟨HIW.out, hR⟩⟩
              · obtain ⟨wn, rfl⟩ : ∃ n : Nat, width = n := ⟨width.toNat, by unfold isW at hW; omega⟩
                unfold isW at hW
                have HIW : Hid (isW (wn : Int)) := hW
                have henc : (Itm.mk kind x wn str).enc = be x wn := by simp [Itm.enc, m0]
                have hn8 : (wn : Int) < 8 := by omega
                have hn0 : (0 : Int) ≤ n := by omega
                have hwm : wrap64 (8 * (wn : Int)) = 8 * wn := by unfold wrap64; omega
                have hn8' : wn ≤ 8 := by omega
                clear hW
                by_cases hR : x < 2 ^ (8 * (wn : Int).toNat)
                · have hq := shr_no x wn hR
                  go_wp2_with fail
                  refine (num_yes x (wn : Int) wa S _ _ (by omega) (by omega) HIW.out hR h1a (by omega)).mono ?_
                  rintro e w3 ⟨rfl, hw3, c3⟩
                  simp only [Int.toNat_natCast] at hw3
                  have k3 := KUp.wrote h2a h3a h4 h5a hw3 c3
                  have hAw3 := (c3).heap HAwa.out hnS
                  have HAw3 := Lib.hid hAw3
                  clear hAw3
                  clear a0 a1 a2 a3
                  have a0 : w3.cell? ⟨wr.heap.size, 0, none⟩ = some (.int .u8 kind) := by rw [cell_of_heap HAw3.out]; rfl
                  have a1 : w3.cell? ⟨wr.heap.size, 1, none⟩ = some (.int .u64 x) := by rw [cell_of_heap HAw3.out]; rfl
                  have a2 : w3.cell? ⟨wr.heap.size, 2, none⟩ = some (.int .i64 wn) := by rw [cell_of_heap HAw3.out]; rfl
                  have a3 : w3.cell? ⟨wr.heap.size, 3, none⟩ = some (.string ⟨str.toArray⟩) := by rw [cell_of_heap HAw3.out]; rfl
                  go_wp2_with fail
                  refine (wide37 (wn : Int) w3).mono ?_
                  rintro e w4 ⟨rfl, rfl⟩
                  rw [decide_eq_true HIW.out]
                  go_wp2_with fail
                  refine (num38 x wn w3 hf1 (by omega)).mono ?_
                  rintro e w4 ⟨rfl, c4⟩
                  have hAw4 := (c4).heap HAw3.out (fun h => h)
                  have HAw4 := Lib.hid hAw4
                  clear hAw4
                  go_wp2_with fail
                  go_meet
                  refine ⟨?_, ?_, ?_, HAw4⟩
                  · rw [str_add3, encs_snoc, henc]
                  · rw [encs_snoc, henc]; exact k3.same c4
                  · exact ⟨by show str.length ≤ 200; omega, fun _ => ⟨HIW.out, hR⟩⟩
                · have hq := shr_yes x wn hR
                  go_wp2_with fail
                  refine (num_range x wn wa _ (by omega) (by omega) HIW.out hR).mono ?_
                  rintro e w3 ⟨rfl, rfl⟩
                  go_wp2_with fail
                  refine (wide37 wn wa).mono ?_
                  rintro e w4 ⟨rfl, rfl⟩
                  rw [decide_eq_true HIW.out]
                  go_wp2_with fail
                  exact ⟨⟨k + 1, K, by omega, rfl, rfl, hK.out.same (ca), hG.out, by omega⟩, by simp only [intOf]; omega⟩
            · have hn1 : ¬ width = 1 := fun h => hW (.inl h)
              have hn2 : ¬ width = 2 := fun h => hW (.inr (.inl h))
              have hn4 : ¬ width = 4 := fun h => hW (.inr (.inr (.inl h)))
              have hn8 : ¬ width = 8 := fun h => hW (.inr (.inr (.inr h)))
              go_wp2_with fail
              refine (num_arg x width wa _ hn1 hn2 hn4 hn8).mono ?_
              rintro e w3 ⟨rfl, rfl⟩
              go_wp2_with fail
              refine (wide37 width wa).mono ?_
              rintro e w4 ⟨rfl, rfl⟩
              rw [decide_eq_false hW]
              go_wp2_with fail
              exact ⟨⟨k + 1, K, by omega, rfl, rfl, hK.out.same (ca), hG.out, by omega⟩, by simp only [intOf]; omega⟩
          have e0 : ((kind : Int) % 4 == 0) = false := by simp; omega
          by_cases m1 : kind % 4 = 1
          · have e1 : ((kind : Int) % 4 == 1) = true := by simp; omega
            have henc : (Itm.mk kind x width str).enc = be x 8 := by simp [Itm.enc, m1]
            obtain ⟨y, hy⟩ : ∃ y, y = wrap64 (x : Int) := ⟨_, rfl⟩
            have hyx : (y % 18446744073709551616).toNat = x := by rw [hy, wrap_mod x hf1]; exact Int.toNat_natCast x
            have HYX := Lib.hid hyx
            have hy' := hy.symm
            clear hyx hy
            go_wp2_with fail
            refine (wint_any y wa S _ _ h1a (by omega)).mono ?_
            rintro e w3 ⟨rfl, hw3, c3⟩
            rw [HYX.out] at hw3
            have k3 := KUp.wrote h2a h3a h4 h5a hw3 c3
            have hAw3 := (c3).heap HAwa.out hnS
            have HAw3 := Lib.hid hAw3
            clear hAw3
            clear a0 a1 a2 a3
            have a0 : w3.cell? ⟨wr.heap.size, 0, none⟩ = some (.int .u8 kind) := by rw [cell_of_heap HAw3.out]; rfl
            have a1 : w3.cell? ⟨wr.heap.size, 1, none⟩ = some (.int .u64 x) := by rw [cell_of_heap HAw3.out]; rfl
            have a2 : w3.cell? ⟨wr.heap.size, 2, none⟩ = some (.int .i64 width) := by rw [cell_of_heap HAw3.out]; rfl
            have a3 : w3.cell? ⟨wr.heap.size, 3, none⟩ = some (.string ⟨str.toArray⟩) := by rw [cell_of_heap HAw3.out]; rfl
            go_wp2_with fail
            refine (num38 x 8 w3 hf1 (by omega)).mono ?_
            rintro e w4 ⟨rfl, c4⟩
            have hAw4 := (c4).heap HAw3.out (fun h => h)
            have HAw4 := Lib.hid hAw4
            clear hAw4
            go_wp2_with fail
            go_meet
            refine ⟨?_, ?_, ?_, HAw4⟩
            · rw [str_add3, encs_snoc, henc]
            · rw [encs_snoc, henc]; exact k3.same c4
            · exact ⟨by show str.length ≤ 200; omega, fun h => absurd h (by show ¬ kind % 4 = 0; omega)⟩
          have e1 : ((kind : Int) % 4 == 1) = false := by simp; omega
          by_cases m2 : kind % 4 = 2
          · have e2 : ((kind : Int) % 4 == 2) = true := by simp; omega
            have henc : (Itm.mk kind x width str).enc = be str.length 2 ++ str := by simp [Itm.enc, m2]
            go_wp2_with fail
            refine (wtext_ok str wa S _ _ h1a (by omega) (by omega)).mono ?_
            rintro e w3 ⟨rfl, hw3, c3⟩
            have k3 := KUp.wrote h2a h3a h4 h5a hw3 c3
            have hAw3 := (c3).heap HAwa.out hnS
            have HAw3 := Lib.hid hAw3
            clear hAw3
            clear a0 a1 a2 a3
            go_wp2_with fail
            have hL3 : Hid (∀ w', Chg (fun _ => False) w3.drew w' → (Instr.loadAt 9 (.pointer (some ⟨wr.heap.size, 3, none⟩))).run Try.prog w' = .ok (.string ⟨str.toArray⟩) w') := fun w' c => load_str w' _ _ (((Chg.refl (fun _ => False) w3).drew.trans c).cell (by rw [cell_of_heap HAw3.out]; rfl) (fun h => h))
            refine wpT.begin (fun _ => False) 11 (by kernel_rfl) rfl ?_
            refine wpT.take 0 rfl (by kernel_rfl) (fun _ _ _ h => h) rfl (fun w' hw' => by go_simp <;> with_reducible rfl) ?_
            simp only [Act.put, List.setIfInBounds_toArray, List.set_cons_zero, List.set_cons_succ]
            refine wpT.take 1 rfl (by kernel_rfl) (fun _ _ _ h => h) rfl (fun w' hw' => by go_simp <;> with_reducible rfl) ?_
            simp only [Act.put, List.setIfInBounds_toArray, List.set_cons_zero, List.set_cons_succ]
            refine wpT.take 2 rfl (by kernel_rfl) (fun _ _ _ h => h) rfl (fun w' hw' => by exact exec_load _ _ _ _ rfl rfl (hL3.out w' hw')) ?_
            simp only [Act.put, List.setIfInBounds_toArray, List.set_cons_zero, List.set_cons_succ]
            refine wpT.take 3 rfl (by kernel_rfl) (fun _ _ _ h => h) rfl (fun w' hw' => by go_simp <;> with_reducible rfl) ?_
            simp only [Act.put, List.setIfInBounds_toArray, List.set_cons_zero, List.set_cons_succ]
            refine wpT.take 4 rfl (by kernel_rfl) (fun _ _ _ h => h) rfl (fun w' hw' => by go_simp <;> with_reducible rfl) ?_
            simp only [Act.put, List.setIfInBounds_toArray, List.set_cons_zero, List.set_cons_succ]
            refine wpT.take 6 rfl (by kernel_rfl) (fun _ _ _ h => h) rfl (fun w' hw' => by go_simp <;> with_reducible rfl) ?_
            simp only [Act.put, List.setIfInBounds_toArray, List.set_cons_zero, List.set_cons_succ]
            refine wpT.take 7 rfl (by kernel_rfl) (fun _ _ _ h => h) rfl (fun w' hw' => by exact exec_load _ _ _ _ rfl rfl (hL3.out w' hw')) ?_
            simp only [Act.put, List.setIfInBounds_toArray, List.set_cons_zero, List.set_cons_succ]
            refine wpT.call 5 rfl (by kernel_rfl) rfl (fun K hK => ?_)
            go_wp2_with fail
            refine (num38 str.length 2 w3.drew (by omega) (by omega)).mono ?_
            rintro e w4 ⟨rfl, c4⟩
            refine hK _ _ c4 ?_
            clear hK
            have hAw4 := ((Chg.refl (fun _ => False) w3).drew.trans c4).heap HAw3.out (fun h => h)
            have HAw4 := Lib.hid hAw4
            clear hAw4
            refine wpT.take 8 rfl (by kernel_rfl) (fun _ _ _ h => h) rfl (fun w' hw' => by go_simp; rw [if_neg (by omega)]) ?_
            simp only [Act.put, List.setIfInBounds_toArray, List.set_cons_zero, List.set_cons_succ]
            refine wpT.take 9 rfl (by kernel_rfl) (fun _ _ _ h => h) rfl (fun w' hw' => by go_simp; rw [if_neg (by omega)]) ?_
            simp only [Act.put, List.setIfInBounds_toArray, List.set_cons_zero, List.set_cons_succ]
            refine wpT.take 10 rfl (by kernel_rfl) (fun _ _ _ h => h) rfl (fun w' hw' => by go_simp <;> with_reducible rfl) ?_
            simp only [Act.put, List.setIfInBounds_toArray, List.set_cons_zero, List.set_cons_succ]
            refine wpT.done (by kernel_rfl) ?_
            go_wp2_with fail
            go_meet
            refine ⟨?_, ?_, ?_, HAw4⟩
            · rw [str_add3, str_add3, encs_snoc, henc]
            · rw [encs_snoc, henc, ← List.append_assoc]; exact k3.same ((Chg.refl (fun _ => False) w3).drew.trans c4)
            · exact ⟨by show str.length ≤ 200; omega, fun h => absurd h (by show ¬ kind % 4 = 0; omega)⟩
          have e2 : ((kind : Int) % 4 == 2) = false := by simp; omega
          have henc : (Itm.mk kind x width str).enc = str := by simp [Itm.enc, m0, m1, m2]
          obtain ⟨cv, cw', hcx, hcr, hcc, hcf⟩ := conv_bytes wa str (by omega)
          have HCR := Lib.hid hcr
          clear hcr
          go_wp2_with fail
          refine (wraw_any cv cw' S _ _ str (h1a.kept hcc (fun _ _ h => h)) HCR.out (by omega)).mono ?_
          rintro e w3 ⟨rfl, hw3, c3⟩
          have zc := hcc.size
          have k3 := KUp.wrote (fun k hk => ⟨(h2a k hk).1, by have := (h2a k hk).2; omega⟩) (h3a.kept hcc (fun _ _ h => h)) h4 (h5a.trans hcc) hw3 c3
          have hAc := hcc.heap HAwa.out (fun h => h)
          have HAcw' := Lib.hid hAc
          clear hAc
          have hAw3 := (c3).heap HAcw'.out hnS
          have HAw3 := Lib.hid hAw3
          clear hAw3
          clear a0 a1 a2 a3
          have a0 : w3.cell? ⟨wr.heap.size, 0, none⟩ = some (.int .u8 kind) := by rw [cell_of_heap HAw3.out]; rfl
          have a1 : w3.cell? ⟨wr.heap.size, 1, none⟩ = some (.int .u64 x) := by rw [cell_of_heap HAw3.out]; rfl
          have a2 : w3.cell? ⟨wr.heap.size, 2, none⟩ = some (.int .i64 width) := by rw [cell_of_heap HAw3.out]; rfl
          have a3 : w3.cell? ⟨wr.heap.size, 3, none⟩ = some (.string ⟨str.toArray⟩) := by rw [cell_of_heap HAw3.out]; rfl
          go_wp2_with fail
          go_meet
          refine ⟨?_, ?_, ?_, HAw3⟩
          · rw [str_add3, encs_snoc, henc]
          · rw [encs_snoc, henc]; exact k3
          · exact ⟨by show str.length ≤ 200; omega, fun h => absurd h (by show ¬ kind % 4 = 0; omega)⟩
        case rest =>
          obtain ⟨rfl, hK2, hgd, HAwc⟩ := hcut
          obtain ⟨S, h1, h2, h3, h4, h5⟩ := id hK2.out
          have H1 := Lib.hid h1
          have H2 := Lib.hid h2
          have H4 := Lib.hid h4
          clear h1 h2 h4
          have b0 : wc.cell? ⟨wr.heap.size, 0, none⟩ = some (.int .u8 kind) := by rw [cell_of_heap HAwc.out]; rfl
          have b1 : wc.cell? ⟨wr.heap.size, 1, none⟩ = some (.int .u64 x) := by rw [cell_of_heap HAwc.out]; rfl
          have b2 : wc.cell? ⟨wr.heap.size, 2, none⟩ = some (.int .i64 width) := by rw [cell_of_heap HAwc.out]; rfl
          have b3 : wc.cell? ⟨wr.heap.size, 3, none⟩ = some (.string ⟨str.toArray⟩) := by rw [cell_of_heap HAwc.out]; rfl
          go_wp2_with (at_builtin; go_loud (refine wpList_app_one rfl _ _ 71 rfl 73 (.agg #[.int .u8 0, .int .u64 0, .int .i64 0, .string ⟨#[]⟩]) 4 40 Try.underlying71 info_item rfl (.slice ka K.length kc) K.length (K.flatMap Itm.cells) [.int .u8 kind, .int .u64 x, .int .i64 width, .string ⟨str.toArray⟩] _ rfl rfl h3 rfl (by simp [Value.oneCell']) (by simp only [maxLen]; omega) (by omega) ?_; intro v' w3 own3 c3 in3 nn3))
          have hnext : KUp w w3 w1.heap.size (encs (K ++ [⟨kind, x, width, str⟩])) v' (K ++ [⟨kind, x, width, str⟩]) := by
            refine ⟨S, H1.out.kept c3 (fun q hq h => (H4.out q h).2 hq), fun q hq => ⟨(H2.out q hq).1, by have := (H2.out q hq).2; have := c3.size; omega⟩, ?_, fun q hq => ?_, h5.new c3 (fun q hq => (H4.out q hq).1)⟩
            · rw [List.length_append, List.flatMap_append, List.length_singleton, List.flatMap_cons, List.flatMap_nil, List.append_nil]
              exact own3
            · rcases in3 q hq with h | h
              · exact H4.out q h
              · exact ⟨by have := h5.size; omega, fun hs => by have := (H2.out q hs).2; omega⟩
          have HNX := Lib.hid hnext
          have HGX : Hid (∀ y ∈ K ++ [(⟨kind, x, width, str⟩ : Itm)], y.good ∧ y.fits) := by
            intro y hy
            rcases List.mem_append.1 hy with hy | hy
            · exact hG.out y hy
            · obtain rfl := List.mem_singleton.1 hy
              exact ⟨hgd.out, hf0, hf1, hf2, hf3⟩
          clear b0 b1 b2 b3 h3 hnext
          go_wp2_with fail
          exact ⟨⟨k + 1, K ++ [⟨kind, x, width, str⟩], by omega, rfl, rfl, HNX, HGX, by simp; omega⟩, by simp only [intOf]; omega⟩
    · obtain rfl : k = n := by omega
      have hlen : (encs K).length ≤ 8080 := by
        have := encs_len K (fun x hx => (hG.out x hx).1)
        omega
      obtain ⟨m, hm⟩ : ∃ m, m = K.length := ⟨_, rfl⟩
      obtain ⟨S, h1, h2, h3, h4, h5⟩ := id hK.out
      have H1 := Lib.hid h1
      have H3 := Lib.hid h3
      clear h1 h2 h3 h4
      rw [← hm] at H3 hKk ⊢
      have HM := Lib.hid hm
      clear hm
      obtain ⟨Z, hZ⟩ : ∃ Z, Z = encs K := ⟨_, rfl⟩
      rw [← hZ] at H1 hlen ⊢
      have HZ := Lib.hid hZ
      clear hZ
      go_wp2_with fail
      refine (wbytes_any wr S _ Z H1.out (by omega)).mono ?_
      rintro e w3 ⟨bv, rfl, hb3, c3, _⟩
      have hcv := convb w3 bv _ hb3.rb
      clear hb3
      go_wp2_with fail
      refine (wbytes_any w3 S _ Z (H1.out.kept c3 (fun _ _ h => h)) (by omega)).mono ?_
      rintro e w4 ⟨bv2, rfl, hb4, c4, _⟩
      have HB4 := Lib.hid hb4
      clear hb4 hcv
      go_wp2_with fail
      refine (rread_any w4 bv2 Z HB4.out.rb (by omega)).mono ?_
      rintro e w5 ⟨rb, rfl, hr5, c5⟩
      have c15 : Chg (fun _ => False) w w5 := ((h5.trans c3).trans c4).trans c5
      have HR5 := Lib.hid hr5
      have hrb : w4.heap.size ≤ rb := by obtain ⟨_, _, _, _, _, h, _⟩ := hr5; exact h
      have hrw : w.heap.size ≤ rb := by have := ((h5.trans c3).trans c4).size; omega
      have H35 : Hid (Owns w5 4 (.slice ka m kc) m (K.flatMap Itm.cells)) := H3.out.kept ((c3.trans c4).trans c5) (fun _ _ h => h)
      have hkr : Hid (∀ q, (Value.slice ka m kc).ownBlock = some q → ¬ q = rb) := fun q hq => by
        have h6 := H3.out.lt q hq
        have := (c3.trans c4).size
        omega
      clear hr5 HB4
      go_wp2_with fail
      go_loopw [126] (fun i wr => ∃ j : Nat, j ≤ m ∧ i = .int .i64 j ∧ Hid (ReaderAt wr (fun q => w4.heap.size ≤ q) rb (encs (K.drop j)) 0) ∧ Hid (Owns wr 4 (.slice ka m kc) m (K.flatMap Itm.cells)) ∧ Hid (Chg (fun _ => False) w wr)) (fun i _ => m - (intOf i).toNat)
      case atStart =>
        exact ⟨0, by omega, rfl, by rw [List.drop_zero, ← HZ.out]; exact HR5.out, H35.out, c15⟩
      case round =>
        obtain ⟨j, hj, rfl, hR, hO, hC⟩ := hrel
        by_cases hlt : j < m
        · obtain ⟨it, hit⟩ : ∃ it, K[j]? = some it := ⟨_, List.getElem?_eq_getElem (by rw [← HM.out]; exact hlt)⟩
          obtain ⟨hgood, hfit⟩ := hG.out it (List.mem_of_getElem? hit)
          have hjI : (j : Int) < m := by omega
          obtain ⟨g2, o2, rfl⟩ : ∃ g2 o2, ka = some ⟨g2, o2, none⟩ := by
            rcases hO.out.2 with ⟨hv, h0⟩ | ⟨g, o, c', hv, _⟩
            · omega
            · simp only [Value.slice.injEq] at hv; exact ⟨g, o, hv.1⟩
          have hcell : ∀ c u, c < 4 → it.cells[c]? = some u → wr.cell? ⟨g2, o2 + (j * 4 + c), none⟩ = some u := by
            intro c u hc hu
            rcases hO.out.2 with ⟨hv, h0⟩ | ⟨g', o', c', hv, _, _, _, h4, _⟩
            · simp at hv
            · simp only [Value.slice.injEq, Option.some.injEq, Addr.mk.injEq, and_true] at hv
              obtain ⟨⟨rfl, rfl⟩, _⟩ := hv
              exact h4 (j * 4 + c) u (by rw [rows_at (s := 4) (f := Itm.cells) K (fun _ _ => rfl) j c it hit hc]; exact hu)
          obtain ⟨kind, x, width, str⟩ := it
          have a0 : wr.cell? ⟨g2, o2 + j * 4, none⟩ = some (.int .u8 kind) := hcell 0 _ (by omega) rfl
          have a1 : wr.cell? ⟨g2, o2 + j * 4 + 1, none⟩ = some (.int .u64 x) := hcell 1 _ (by omega) rfl
          have a2 : wr.cell? ⟨g2, o2 + j * 4 + 2, none⟩ = some (.int .i64 width) := hcell 2 _ (by omega) rfl
          have a3 : wr.cell? ⟨g2, o2 + j * 4 + 3, none⟩ = some (.string ⟨str.toArray⟩) := hcell 3 _ (by omega) rfl
          obtain ⟨hf0, hf1, hf2, hf3⟩ := hfit
          obtain ⟨hg0, hg1⟩ := hgood
          simp only at hf0 hf1 hf2 hf3 hg0 hg1
          have hdr : K.drop j = ⟨kind, x, width, str⟩ :: K.drop (j + 1) := by
            rw [List.drop_eq_getElem_cons (by rw [← HM.out]; exact hlt)]
            congr 1
            have := (List.getElem?_eq_some_iff.1 hit).2
            exact this
          obtain ⟨Y, hY⟩ : ∃ Y, Y = encs (K.drop (j + 1)) := ⟨_, rfl⟩
          have hen : encs (K.drop j) = (Itm.mk kind x width str).enc ++ Y := by rw [hdr, hY]; rfl
          have hYl : Y.length ≤ 8080 := by
            have h6 := encs_len (K.drop (j + 1)) (fun x hx => (hG.out x (List.mem_of_mem_drop hx)).1)
            have h7 : (K.drop (j + 1)).length ≤ 40 := by have := HM.out; simp; omega
            rw [hY]; omega
          have hRe := hR.out
          rw [hen] at hRe
          have HR := Lib.hid hRe
          have HY := Lib.hid hY
          have HG1 := Lib.hid hg1
          have hw1 : wrap64 ((j : Int) + 1) = (j : Int) + 1 := by unfold wrap64; omega
          clear hcell hit hdr hen hRe hY hg1 hR
          go_upto_block 5 with fail
          obtain ⟨wa, hwa⟩ : ∃ wa, wa = wr.alloc (.cells #[.int .u8 kind, .int .u64 x, .int .i64 width, .string ⟨str.toArray⟩] 73) := ⟨_, rfl⟩
          have ca : Chg (fun _ => False) wr wa := by rw [hwa]; exact (Chg.refl _ _).alloc _
          have hAa : wa.heap[wr.heap.size]? = some (.cells #[.int .u8 kind, .int .u64 x, .int .i64 width, .string ⟨str.toArray⟩] 73 (0, 0)) := by rw [hwa]; exact heap_at_new _ _ _ rfl
          have HAwa := Lib.hid hAa
          have hrd : ReaderAt wa (fun q => w4.heap.size ≤ q) rb ((Itm.mk kind x width str).enc ++ Y) 0 := HR.out.kept ca (fun _ _ h => h)
          have HRD := Lib.hid hrd
          have hnb : ¬ wr.heap.size = rb := by
            obtain ⟨_, _, hh, _⟩ := HR.out
            have := (Array.getElem?_eq_some_iff.1 hh).1
            omega
          rw [← hwa]
          clear a0 a1 a2 a3 hwa hAa hrd HR
          go_cut [12] from 128 to 165 (fun s wx => s = .bool true ∧ Hid (ReaderAt wx (fun q => w4.heap.size ≤ q) rb Y 0) ∧ Hid (Chg (fun q => q = rb) wa wx))
          case first =>
            have a0 : wa.cell? ⟨wr.heap.size, 0, none⟩ = some (.int .u8 kind) := by rw [cell_of_heap HAwa.out]; rfl
            have a1 : wa.cell? ⟨wr.heap.size, 1, none⟩ = some (.int .u64 x) := by rw [cell_of_heap HAwa.out]; rfl
            have a2 : wa.cell? ⟨wr.heap.size, 2, none⟩ = some (.int .i64 width) := by rw [cell_of_heap HAwa.out]; rfl
            have a3 : wa.cell? ⟨wr.heap.size, 3, none⟩ = some (.string ⟨str.toArray⟩) := by rw [cell_of_heap HAwa.out]; rfl
            by_cases m0 : kind % 4 = 0
            · have e0 : ((kind : Int) % 4 == 0) = true := by simp; omega
              have hW := (HG1.out m0).1
              obtain ⟨wn, rfl⟩ : ∃ n : Nat, width = n := ⟨width.toNat, by unfold isW at hW; omega⟩
              unfold isW at hW
              have hwn : wn = 1 ∨ wn = 2 ∨ wn = 4 ∨ wn = 8 := by omega
              have henc : (Itm.mk kind x wn str).enc = be x wn := by simp [Itm.enc, m0]
              have hrd := HRD.out
              rw [henc] at hrd
              have HRD2 := Lib.hid hrd
              have hx8 : x < 256 ^ wn := by have h6 := (HG1.out m0).2; have h7 := Nat.pow_mul 2 8 wn; simp only [Int.toNat_natCast] at h6; rw [h7] at h6; exact h6
              have hof : Hid (ofBe ((be x wn ++ Y).take wn) = x) := by show _ = x; rw [List.take_left' (by simp), ofBe_be3 x wn hx8]
              have hdr : Hid ((be x wn ++ Y).drop wn = Y) := List.drop_left' (by simp)
              clear hrd henc hx8 hW
              go_wp2_with fail
              clear a0 a1 a2 a3
              have hL2 : Hid (∀ w', Chg (fun q => q = rb) wa.drew w' → (Instr.loadAt 3 (.pointer (some ⟨wr.heap.size, 2, none⟩))).run Try.prog w' = .ok (.int .i64 wn) w') := fun w' c => load_i64 w' _ _ ((((Chg.refl (fun q => q = rb) wa).drew).trans c).cell (by rw [cell_of_heap HAwa.out]; rfl) hnb)
              have hL1 : Hid (∀ w', Chg (fun q => q = rb) wa.drew w' → (Instr.loadAt 22 (.pointer (some ⟨wr.heap.size, 1, none⟩))).run Try.prog w' = .ok (.int .u64 x) w') := fun w' c => load_u64 w' _ _ ((((Chg.refl (fun q => q = rb) wa).drew).trans c).cell (by rw [cell_of_heap HAwa.out]; rfl) hnb)
              refine wpT.begin (fun q => q = rb) 8 (by kernel_rfl) rfl ?_
              refine wpT.take 0 rfl (by kernel_rfl) (fun _ _ _ h => h) rfl (fun w' hw' => by go_simp <;> with_reducible rfl) ?_
              simp only [Act.put, List.setIfInBounds_toArray, List.set_cons_zero, List.set_cons_succ]
              refine wpT.take 1 rfl (by kernel_rfl) (fun _ _ _ h => h) rfl (fun w' hw' => by go_simp <;> with_reducible rfl) ?_
              simp only [Act.put, List.setIfInBounds_toArray, List.set_cons_zero, List.set_cons_succ]
              refine wpT.take 2 rfl (by kernel_rfl) (fun _ _ _ h => h) rfl (fun w' hw' => by exact exec_load _ _ _ _ rfl rfl (hL2.out w' hw')) ?_
              simp only [Act.put, List.setIfInBounds_toArray, List.set_cons_zero, List.set_cons_succ]
              refine wpT.take 4 rfl (by kernel_rfl) (fun _ _ _ h => h) rfl (fun w' hw' => by go_simp <;> with_reducible rfl) ?_
              simp only [Act.put, List.setIfInBounds_toArray, List.set_cons_zero, List.set_cons_succ]
              refine wpT.take 5 rfl (by kernel_rfl) (fun _ _ _ h => h) rfl (fun w' hw' => by exact exec_load _ _ _ _ rfl rfl (hL1.out w' hw')) ?_
              simp only [Act.put, List.setIfInBounds_toArray, List.set_cons_zero, List.set_cons_succ]
              refine wpT.call 3 rfl (by kernel_rfl) rfl (fun K hK => ?_)
              go_wp2_with fail
              refine (rnum_ok wa.drew _ rb _ wn (HRD2.out.kept (T := fun _ => False) ((Chg.refl _ wa).drew) (fun _ _ h => h)) hwn (by simp) (by simp; omega)).mono ?_
              rintro e w6 ⟨rfl, h6, c6⟩
              rw [hdr.out] at h6
              have HX6 := Lib.hid h6
              rw [hof.out]
              refine hK _ _ c6 ?_
              clear hK h6
              refine wpT.take 6 rfl (by kernel_rfl) (fun _ _ _ h => h) rfl (fun w' hw' => by go_simp <;> with_reducible rfl) ?_
              simp only [Act.put, List.setIfInBounds_toArray, List.set_cons_zero, List.set_cons_succ]
              refine wpT.take 7 rfl (by kernel_rfl) (fun _ _ _ h => h) rfl (fun w' hw' => by go_simp <;> with_reducible rfl) ?_
              simp only [Act.put, List.setIfInBounds_toArray, List.set_cons_zero, List.set_cons_succ]
              refine wpT.done (by kernel_rfl) ?_
              go_wp2_with fail
              go_meet
              exact ⟨rfl, HX6.out, ((Chg.refl (fun q => q = rb) wa).drew.trans c6)⟩
            have e0 : ((kind : Int) % 4 == 0) = false := by simp; omega
            by_cases m1 : kind % 4 = 1
            · have e1 : ((kind : Int) % 4 == 1) = true := by simp; omega
              have henc : (Itm.mk kind x width str).enc = be x 8 := by simp [Itm.enc, m1]
              have hrd := HRD.out
              rw [henc] at hrd
              have HRD2 := Lib.hid hrd
              have hx8 : x < 256 ^ 8 := by have h8 := (show (256 : Nat) ^ 8 = 18446744073709551616 by decide); omega
              have hof : Hid (ofBe ((be x 8 ++ Y).take 8) = x) := by show _ = x; rw [List.take_left' (by simp), ofBe_be3 x 8 hx8]
              have hdr : Hid ((be x 8 ++ Y).drop 8 = Y) := List.drop_left' (by simp)
              clear hrd henc hx8
              go_wp2_with fail
              clear a0 a1 a2 a3
              have hL1 : Hid (∀ w', Chg (fun q => q = rb) wa.drew w' → (Instr.loadAt 22 (.pointer (some ⟨wr.heap.size, 1, none⟩))).run Try.prog w' = .ok (.int .u64 x) w') := fun w' c => load_u64 w' _ _ ((((Chg.refl (fun q => q = rb) wa).drew).trans c).cell (by rw [cell_of_heap HAwa.out]; rfl) hnb)
              refine wpT.begin (fun q => q = rb) 7 (by kernel_rfl) rfl ?_
              refine wpT.take 0 rfl (by kernel_rfl) (fun _ _ _ h => h) rfl (fun w' hw' => by go_simp <;> with_reducible rfl) ?_
              simp only [Act.put, List.setIfInBounds_toArray, List.set_cons_zero, List.set_cons_succ]
              refine wpT.take 2 rfl (by kernel_rfl) (fun _ _ _ h => h) rfl (fun w' hw' => by go_simp <;> with_reducible rfl) ?_
              simp only [Act.put, List.setIfInBounds_toArray, List.set_cons_zero, List.set_cons_succ]
              refine wpT.take 3 rfl (by kernel_rfl) (fun _ _ _ h => h) rfl (fun w' hw' => by exact exec_load _ _ _ _ rfl rfl (hL1.out w' hw')) ?_
              simp only [Act.put, List.setIfInBounds_toArray, List.set_cons_zero, List.set_cons_succ]
              refine wpT.take 4 rfl (by kernel_rfl) (fun _ _ _ h => h) rfl (fun w' hw' => by go_simp <;> with_reducible rfl) ?_
              simp only [Act.put, List.setIfInBounds_toArray, List.set_cons_zero, List.set_cons_succ]
              refine wpT.call 1 rfl (by kernel_rfl) rfl (fun K hK => ?_)
              go_wp2_with fail
              refine (rint_ok wa.drew _ rb _ (HRD2.out.kept (T := fun _ => False) ((Chg.refl _ wa).drew) (fun _ _ h => h)) (by simp) (by simp; omega)).mono ?_
              rintro e w6 ⟨rfl, h6, c6⟩
              rw [hdr.out] at h6
              have HX6 := Lib.hid h6
              rw [hof.out]
              refine hK _ _ c6 ?_
              clear hK h6
              refine wpT.take 5 rfl (by kernel_rfl) (fun _ _ _ h => h) rfl (fun w' hw' => by go_simp <;> with_reducible rfl) ?_
              simp only [Act.put, List.setIfInBounds_toArray, List.set_cons_zero, List.set_cons_succ]
              refine wpT.take 6 rfl (by kernel_rfl) (fun _ _ _ h => h) rfl (fun w' hw' => by go_simp <;> with_reducible rfl) ?_
              simp only [Act.put, List.setIfInBounds_toArray, List.set_cons_zero, List.set_cons_succ]
              refine wpT.done (by kernel_rfl) ?_
              go_wp2_with fail
              go_meet
              exact ⟨congrArg Value.bool (wrap_eq x), HX6.out, ((Chg.refl (fun q => q = rb) wa).drew.trans c6)⟩
            have e1 : ((kind : Int) % 4 == 1) = false := by simp; omega
            by_cases m2 : kind % 4 = 2
            · have e2 : ((kind : Int) % 4 == 2) = true := by simp; omega
              have henc : (Itm.mk kind x width str).enc = be str.length 2 ++ str := by simp [Itm.enc, m2]
              have hrd := HRD.out
              rw [henc, List.append_assoc] at hrd
              have HRD2 := Lib.hid hrd
              have hof : Hid (ofBe ((be str.length 2 ++ (str ++ Y)).take 2) = str.length) := by show _ = str.length; rw [List.take_left' (by simp), ofBe_be3 str.length 2 (by have h8 := (show (256 : Nat) ^ 2 = 65536 by decide); omega)]
              have hst : Hid (((be str.length 2 ++ (str ++ Y)).drop 2).take str.length = str) := by show _ = str; rw [List.drop_left' (by simp), List.take_left' rfl]
              have hdr : Hid ((be str.length 2 ++ (str ++ Y)).drop (2 + str.length) = Y) := by show _ = Y; rw [← List.drop_drop, List.drop_left' (by simp), List.drop_left' rfl]
              clear hrd henc
              go_wp2_with fail
              clear a0 a1 a2 a3
              have hL3 : Hid (∀ w', Chg (fun q => q = rb) wa.drew w' → (Instr.loadAt 9 (.pointer (some ⟨wr.heap.size, 3, none⟩))).run Try.prog w' = .ok (.string ⟨str.toArray⟩) w') := fun w' c => load_str w' _ _ ((((Chg.refl (fun q => q = rb) wa).drew).trans c).cell (by rw [cell_of_heap HAwa.out]; rfl) hnb)
              refine wpT.begin (fun q => q = rb) 6 (by kernel_rfl) rfl ?_
              refine wpT.take 0 rfl (by kernel_rfl) (fun _ _ _ h => h) rfl (fun w' hw' => by go_simp <;> with_reducible rfl) ?_
              simp only [Act.put, List.setIfInBounds_toArray, List.set_cons_zero, List.set_cons_succ]
              refine wpT.take 2 rfl (by kernel_rfl) (fun _ _ _ h => h) rfl (fun w' hw' => by go_simp <;> with_reducible rfl) ?_
              simp only [Act.put, List.setIfInBounds_toArray, List.set_cons_zero, List.set_cons_succ]
              refine wpT.take 3 rfl (by kernel_rfl) (fun _ _ _ h => h) rfl (fun w' hw' => by exact exec_load _ _ _ _ rfl rfl (hL3.out w' hw')) ?_
              simp only [Act.put, List.setIfInBounds_toArray, List.set_cons_zero, List.set_cons_succ]
              refine wpT.call 1 rfl (by kernel_rfl) rfl (fun K hK => ?_)
              go_wp2_with fail
              refine (rtext_ok wa.drew _ rb _ 200 str.length (HRD2.out.kept (T := fun _ => False) ((Chg.refl _ wa).drew) (fun _ _ h => h)) (by simp) (by simp; omega) hof.out (by omega)).mono ?_
              rintro e w6 ⟨rfl, h6, c6⟩
              rw [hdr.out] at h6
              have HX6 := Lib.hid h6
              rw [hst.out]
              refine hK _ _ c6 ?_
              clear hK h6
              refine wpT.take 4 rfl (by kernel_rfl) (fun _ _ _ h => h) rfl (fun w' hw' => by go_simp <;> with_reducible rfl) ?_
              simp only [Act.put, List.setIfInBounds_toArray, List.set_cons_zero, List.set_cons_succ]
              refine wpT.take 5 rfl (by kernel_rfl) (fun _ _ _ h => h) rfl (fun w' hw' => by go_simp <;> with_reducible rfl) ?_
              simp only [Act.put, List.setIfInBounds_toArray, List.set_cons_zero, List.set_cons_succ]
              refine wpT.done (by kernel_rfl) ?_
              go_wp2_with fail
              go_meet
              exact ⟨rfl, HX6.out, ((Chg.refl (fun q => q = rb) wa).drew.trans c6)⟩
            have e2 : ((kind : Int) % 4 == 2) = false := by simp; omega
            have henc : (Itm.mk kind x width str).enc = str := by simp [Itm.enc, m0, m1, m2]
            have hrd := HRD.out
            rw [henc] at hrd
            have HRD2 := Lib.hid hrd
            have hst : Hid ((str ++ Y).take str.length = str) := List.take_left' rfl
            have hdr : Hid ((str ++ Y).drop str.length = Y) := List.drop_left' rfl
            clear hrd henc
            go_wp2_with fail
            clear a0 a1 a2 a3
            have hL3 : Hid (∀ w', Chg (fun q => q = rb) wa.drew w' → (Instr.loadAt 9 (.pointer (some ⟨wr.heap.size, 3, none⟩))).run Try.prog w' = .ok (.string ⟨str.toArray⟩) w') := fun w' c => load_str w' _ _ ((((Chg.refl (fun q => q = rb) wa).drew).trans c).cell (by rw [cell_of_heap HAwa.out]; rfl) hnb)
            refine wpT.begin (fun q => q = rb) 10 (by kernel_rfl) rfl ?_
            refine wpT.take 0 rfl (by kernel_rfl) (fun _ _ _ h => h) rfl (fun w' hw' => by go_simp <;> with_reducible rfl) ?_
            simp only [Act.put, List.setIfInBounds_toArray, List.set_cons_zero, List.set_cons_succ]
            refine wpT.take 1 rfl (by kernel_rfl) (fun _ _ _ h => h) rfl (fun w' hw' => by go_simp <;> with_reducible rfl) ?_
            simp only [Act.put, List.setIfInBounds_toArray, List.set_cons_zero, List.set_cons_succ]
            refine wpT.take 2 rfl (by kernel_rfl) (fun _ _ _ h => h) rfl (fun w' hw' => by exact exec_load _ _ _ _ rfl rfl (hL3.out w' hw')) ?_
            simp only [Act.put, List.setIfInBounds_toArray, List.set_cons_zero, List.set_cons_succ]
            refine wpT.take 3 rfl (by kernel_rfl) (fun _ _ _ h => h) rfl (fun w' hw' => by go_simp <;> with_reducible rfl) ?_
            simp only [Act.put, List.setIfInBounds_toArray, List.set_cons_zero, List.set_cons_succ]
            refine wpT.take 6 rfl (by kernel_rfl) (fun _ _ _ h => h) rfl (fun w' hw' => by go_simp <;> with_reducible rfl) ?_
            simp only [Act.put, List.setIfInBounds_toArray, List.set_cons_zero, List.set_cons_succ]
            refine wpT.take 7 rfl (by kernel_rfl) (fun _ _ _ h => h) rfl (fun w' hw' => by exact exec_load _ _ _ _ rfl rfl (hL3.out w' hw')) ?_
            simp only [Act.put, List.setIfInBounds_toArray, List.set_cons_zero, List.set_cons_succ]
            refine wpT.call 4 rfl (by kernel_rfl) rfl (fun K hK => ?_)
            go_wp2_with fail
            refine (rraw_ok wa.drew _ rb _ str.length (HRD2.out.kept (T := fun _ => False) ((Chg.refl _ wa).drew) (fun _ _ h => h)) (by simp) (by simp; omega)).mono ?_
            rintro e w6 ⟨ov, rfl, ho6, f6, h6, c6⟩
            rw [hdr.out] at h6
            rw [hst.out] at ho6
            have HX6 := Lib.hid h6
            have HO6 := Lib.hid ho6
            refine hK _ _ c6 ?_
            clear hK h6
            have hfr : Hid (∀ q, ov.ownBlock = some q → ¬ q = rb) := fun q hq => by have h7 := f6 q hq; have h8 : rb < wa.heap.size := by { obtain ⟨_, _, hh, _⟩ := HRD2.out; exact (Array.getElem?_eq_some_iff.1 hh).1 }; have h9 : wa.drew.heap.size = wa.heap.size := rfl; omega
            refine wpT.take 5 rfl (by kernel_rfl) (fun _ _ _ h => h) rfl (fun w' hw' => by exact exec_convert _ _ _ _ _ _ rfl rfl (convb w' ov str (HO6.out.rb.kept hw' (fun q hq h => hfr.out q hq h)))) ?_
            simp only [Act.put, List.setIfInBounds_toArray, List.set_cons_zero, List.set_cons_succ]
            refine wpT.take 8 rfl (by kernel_rfl) (fun _ _ _ h => h) rfl (fun w' hw' => by go_simp <;> with_reducible rfl) ?_
            simp only [Act.put, List.setIfInBounds_toArray, List.set_cons_zero, List.set_cons_succ]
            refine wpT.take 9 rfl (by kernel_rfl) (fun _ _ _ h => h) rfl (fun w' hw' => by go_simp <;> with_reducible rfl) ?_
            simp only [Act.put, List.setIfInBounds_toArray, List.set_cons_zero, List.set_cons_succ]
            refine wpT.done (by kernel_rfl) ?_
            go_wp2_with fail
            go_meet
            exact ⟨rfl, HX6.out, ((Chg.refl (fun q => q = rb) wa).drew.trans c6)⟩
          case rest =>
            obtain ⟨rfl, hRY, hCC⟩ := hcut
            clear hf0 hf1 hf2 hf3 hg0
            go_wp2_with fail
            refine (rerr_any wc _ rb Y 0 hRY.out).mono ?_
            rintro e w6 ⟨rfl, rfl⟩
            go_wp2_with fail
            have hO2 : Hid (Owns wc 4 (.slice (some ⟨g2, o2, none⟩) m kc) m (K.flatMap Itm.cells)) := (hO.out.kept ca (fun _ _ h => h)).kept hCC.out (fun q hq h => hkr.out q hq h)
            exact ⟨⟨j + 1, by omega, rfl, by rw [← HY.out]; exact hRY.out, hO2.out, (hC.out.trans ca).new hCC.out (fun q hq => by omega)⟩, by simp only [intOf]; omega⟩
        · obtain rfl : j = m := by omega
          have hRe := hR.out
          rw [List.drop_of_length_le (by rw [HM.out]; exact Nat.le_refl _)] at hRe
          have HR : Hid (ReaderAt wr (fun q => w4.heap.size ≤ q) rb [] 0) := hRe
          clear hRe hR
          go_wp2_with fail
          refine (rend_ok wr _ rb [] HR.out).mono ?_
          rintro e w6 ⟨rfl, rfl⟩
          go_wp2_with fail
          go_ret
          exact ⟨rfl, hC.out⟩
end Go.Proofs.Ytncgeeaifacapaa
