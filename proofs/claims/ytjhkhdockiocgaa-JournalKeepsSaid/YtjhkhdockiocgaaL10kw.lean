/- JournalKeeps: the walk. -/
import Derived.Test.YtjhkhdockiocgaaL10k
namespace Go.Proofs.Ytjhkhdockiocgaa
open Go.RowKit Go.Cat

theorem own_eq (a : Option Addr) (n c m k : Nat) : (Value.slice a n c).ownBlock = (Value.slice a m k).ownBlock := by cases a <;> rfl
set_option maxRecDepth 100000 in
set_option maxHeartbeats 16000000 in
theorem keeps10 (lv : Value) (L : List Act10) (w : World) (hL : Reads w 5 lv L.length (L.flatMap Act10.cells)) (hA : ∀ a ∈ L, RBz w a.dv a.data) :
    Calls Try.prog 8 #[lv] w fun e w' => e = .returned (.bool true) ∧ Chg (fun _ => False) w w' := by
  obtain ⟨la, lc, rfl⟩ := hL.form
  have HL := Lib.hid hL
  have HA := Lib.hid hA
  clear hL hA
  go_enter Try.func8, Try.ntmps8
  go_wp2_with fail
  refine (lives10 _).mono ?_
  rintro e w1 ⟨rfl, c1⟩
  have C1 := Lib.hid c1
  clear c1
  by_cases h40 : 40 < L.length
  · have i40 : (40 : Int) < L.length := by omega
    go_wp2_with fail
    refine (lives10 _).mono ?_
    rintro e w2 ⟨rfl, c2⟩
    go_wp2_with fail
    go_ret
    exact ⟨rfl, C1.out.trans c2⟩
  have i40 : ¬ (40 : Int) < L.length := by omega
  clear h40
  obtain ⟨m, hm⟩ : ∃ m, m = L.length := ⟨_, rfl⟩
  have HM := Lib.hid hm
  rw [← hm] at i40 ⊢
  clear hm
  go_wp2_with fail
  refine (ju_new w1 w1 60 5 50 1 (by omega) (by omega) (Chg.refl _ _) (by omega) (by omega) (by omega)).mono ?_
  rintro e w2 ⟨D, rfl, h2, c2⟩
  have H2 := Lib.hid h2
  clear h2 c2
  go_wp2_with fail
  refine (ju_newj H2.out 5 50 1 (by omega) (by omega) (by omega)).mono ?_
  rintro e w3 ⟨J0, rfl, h3, j3, z3, c3⟩
  have K3 : Hid (KI w1 w3 D J0 1 [] [] (.slice none 0 0) (.slice none 0 0)) := ⟨h3.kept (Chg.refl (fun _ => False) w3) (fun _ _ h => h.elim) (fun k hk => .inl (by
    rcases hk with hk | hk | hk
    · exact .inr hk
    · simp [Value.ownBlock] at hk
    · simp [Value.ownBlock] at hk)), j3, KR.nil _ _, KR.nil _ _, fun q h => by simp [Value.ownBlock] at h, fun q h => by simp [Value.ownBlock] at h⟩
  clear h3 j3 z3 c3 H2
  have HL1 := Lib.hid (HL.out.kept C1.out (fun _ _ h => h))
  have HA1 : Hid (∀ a ∈ L, RBz w1 a.dv a.data) := fun a ha => (HA.out a ha).same C1.out
  clear HL HA
  go_wp2_with fail
  go_loopw [5, 6, 8, 9, 10, 46] (fun tu jv dv bv us i wr => ∃ (k t J : Nat) (done behind : List (List UInt8)), k ≤ m ∧ i = .int .i64 k ∧ tu = .int .u32 t ∧ jv = .pointer (some ⟨J, 0, none⟩) ∧ us = .int .i64 ((total done + total behind : Nat) : Int) ∧ 1 ≤ t ∧ t ≤ k + 1 ∧ done.length + behind.length ≤ k ∧ Hid (KI w1 wr D J t done behind dv bv)) (fun _ _ _ _ _ i _ => m - (intOf i).toNat)
  case atStart => exact ⟨0, 1, J0, [], [], by omega, rfl, rfl, rfl, rfl, by omega, by omega, by simp, K3.out⟩
  case round =>
    obtain ⟨k, t, J, done, behind, hk, rfl, rfl, rfl, rfl, ht1, htk, hdl, hKI⟩ := hrel
    have hchg := hKI.out.ju.chg
    have hfit := hKI.out.ju.fits.1
    have CH := Lib.hid hchg
    have hsz := hchg.size
    obtain ⟨da, dc, hdv⟩ := hKI.out.kd.form
    obtain ⟨ba, bc, hbv⟩ := hKI.out.kb.form
    subst hdv
    subst hbv
    obtain ⟨U, hU⟩ : ∃ U, U = total done + total behind := ⟨_, rfl⟩
    have HU := Lib.hid hU
    have JI : Hid (JIs wr J D 5 50 t U) := by rw [HU.out]; exact hKI.out.ji
    rw [← hU] at hfit ⊢
    obtain ⟨dn, hdn⟩ : ∃ n, n = done.length := ⟨_, rfl⟩
    obtain ⟨bn, hbn⟩ : ∃ n, n = behind.length := ⟨_, rfl⟩
    have HDN := Lib.hid hdn
    have HBN := Lib.hid hbn
    rw [← hdn, ← hbn] at hKI hdl ⊢
    clear hchg hU hdn hbn
    by_cases hlt : k < m
    · obtain ⟨a, ha⟩ := getElem?_some_lt (show k < L.length by rw [← HM.out]; exact hlt)
      have z1 := HA1.out a (List.mem_of_getElem? ha)
      obtain ⟨u, uc, hadv⟩ := z1.form
      rw [hadv] at z1
      obtain ⟨g, o, hla, hce⟩ := acts_form (HL1.out) k a ha
      subst hla
      have x0 := CH.out.cell (hce 0 _ rfl) (fun h => h)
      have x1 := CH.out.cell (hce 1 _ rfl) (fun h => h)
      have x2 := CH.out.cell (hce 2 _ rfl) (fun h => h)
      have x3 := CH.out.cell (hce 3 _ rfl) (fun h => h)
      have x4 := CH.out.cell (hce 4 _ rfl) (fun h => h)
      simp only [Nat.add_zero, ← Nat.add_assoc] at x0 x1 x2 x3 x4
      rw [hadv] at x1
      obtain ⟨dl, hdle⟩ : ∃ n, n = a.data.length := ⟨_, rfl⟩
      have HDL := Lib.hid hdle
      rw [← hdle] at x1 z1
      have Z1 := Lib.hid z1
      have HAT := Lib.hid ha
      clear hce hadv ha z1 hdle
      obtain ⟨wb, hwb⟩ : ∃ wb, wb = (wr.alloc (.cells #[.int .i64 a.kind, .slice u dl uc, .int .u64 a.keep, .int .i64 a.torn, .int .i64 a.bytes] 63)) := ⟨_, rfl⟩
      have cb : Chg (fun _ => False) wr wb := by rw [hwb]; exact (Chg.refl _ wr).alloc _
      have CB := Lib.hid cb
      have KB := Lib.hid (hKI.out.same cb)
      have KBJ : Hid (JU w1 wb D 60 5 50 t (fun o => ¬ sound o) done behind (fun q => S3 J (.slice da dn dc) (.slice ba bn bc) q ∨ q = wr.heap.size)) := hKI.out.ju.kept cb (fun _ _ h => h.elim) (fun q hq => by
        rcases hq with hq | hq
        · exact .inl hq
        · exact .inr ⟨by omega, by rw [hq, hwb]; simp⟩)
      have hbx : wb.heap[wr.heap.size]? = some (.cells #[.int .i64 a.kind, .slice u dl uc, .int .u64 a.keep, .int .i64 a.torn, .int .i64 a.bytes] 63 (0, 0)) := by rw [hwb]; exact heap_at_new _ _ _ rfl
      have HBX := Lib.hid hbx
      have HWB := Lib.hid hwb
      have hbs : wr.heap.size < wb.heap.size := by rw [hwb]; simp
      clear cb hwb hbx
      by_cases h200 : 200 < dl
      · have i2 : (200 : Int) < dl := by omega
        go_wp2_with fail
        go_ret
        exact ⟨rfl, C1.out.trans (CH.out.alloc _)⟩
      have i2 : ¬ (200 : Int) < dl := by omega
      have hl600 : a.data.length ≤ 600 := by rw [← HDL.out]; omega
      have hcl := costN_le hl600
      have hcp := costN_pos a.data.length
      have CO := Lib.hid (fun w => cost10 dl w (by omega))
      obtain ⟨q, hq⟩ : ∃ q, q = costN a.data.length := ⟨_, rfl⟩
      have HQ := Lib.hid hq
      rw [← hq] at hcl hcp
      have CO : Hid (∀ w, Calls Try.prog 32 #[.int .i64 dl] w fun e w' => e = .returned (.int .i64 q) ∧ w = w') := by rw [HQ.out, ← HDL.out]; exact CO.out
      -- the box's fields, wherever the world has gone on
      have BF : Hid (∀ (S : Nat → Prop) (w' : World), Chg S wb w' → ¬ S wr.heap.size → w'.cell? ⟨wr.heap.size, 0, none⟩ = some (.int .i64 a.kind) ∧ w'.cell? ⟨wr.heap.size, 1, none⟩ = some (.slice u dl uc)) := fun S w' c hs => by
        have h := c.heap HBX.out hs
        exact ⟨by rw [cell_of_heap h]; rfl, by rw [cell_of_heap h]; rfl⟩
      have hbJ : Hid (∀ q, S3 J (.slice da dn dc) (.slice ba bn bc) q → q ≠ wr.heap.size) := fun q hq e => by have := (hKI.out.ju.S_lt q hq).2; omega
      clear hq h200
      by_cases hkind : 0 ≤ a.kind ∧ a.kind ≤ 3
      · obtain ⟨k0, k3⟩ := hkind
        by_cases hfull : 50 < U + q
        · have i3 : (50 : Int) < (U : Int) + q := by omega
          by_cases hk1 : a.kind ≤ 1
          · have FU := Lib.hid (commitj_full wb J D 5 50 t U u dl uc (JI.out.kept CB.out (fun h => h)) (by omega) (by omega) (by omega) (by rw [HDL.out, ← HQ.out]; exact hfull))
            clear hfull
            go_wp2_with fail
            rw [← HWB.out]
            refine (CO.out _).mono ?_
            rintro e w' ⟨rfl, rfl⟩
            obtain ⟨y0, y1⟩ := BF.out (fun _ => False) wb (Chg.refl _ wb) (fun h => h)
            go_wp2_with fail
            refine FU.out.mono ?_
            rintro e w5 ⟨rfl, c5⟩
            have K5 := Lib.hid (KB.out.same c5)
            have J5 := Lib.hid ((JI.out.kept CB.out (fun h => h)).kept c5 (fun h => h))
            clear c5 y0 y1 x0 x1 x2 x3 x4
            go_wp2_with fail
            refine (turnj w5 J D 5 50 t U J5.out).mono ?_
            rintro e w' ⟨rfl, rfl⟩
            go_wp2_with fail
            refine (nextj w5 J D 5 50 t U J5.out).mono ?_
            rintro e w' ⟨rfl, rfl⟩
            go_wp2_with fail
            refine (roomj w5 J D 5 50 t U J5.out (by omega) (by omega)).mono ?_
            rintro e w6 ⟨nq, rfl, hw6⟩
            have c6 : Chg (fun _ => False) w5 w6 := by rw [hw6]; exact (Chg.refl _ w5).drewN nq
            have K6 := Lib.hid (K5.out.same c6)
            have e47 : (((50 - U) * 47 : Nat) : Int) = 47 * (50 - (U : Int)) := by omega
            have E47 : Hid ((((50 - U) * 47 : Nat) : Int) = 47 * (50 - (U : Int))) := e47
            rw [E47.out]
            clear hw6 c6 e47
            go_wp2_with fail
            exact ⟨⟨k + 1, t, J, done, behind, by omega, rfl, rfl, rfl, by rw [HU.out], ht1, by omega, by rw [← HDN.out, ← HBN.out]; omega, K6.out⟩, by simp only [intOf]; omega⟩
          · have hk1' : ¬ a.kind ≤ 1 := hk1
            have FU := Lib.hid (writej_full wb J D 5 50 t U u dl uc (JI.out.kept CB.out (fun h => h)) (by omega) (by omega) (by omega) (by rw [HDL.out, ← HQ.out]; exact hfull))
            clear hfull
            go_wp2_with fail
            rw [← HWB.out]
            refine (CO.out _).mono ?_
            rintro e w' ⟨rfl, rfl⟩
            obtain ⟨y0, y1⟩ := BF.out (fun _ => False) wb (Chg.refl _ wb) (fun h => h)
            go_wp2_with fail
            refine FU.out.mono ?_
            rintro e w5 ⟨rfl, c5⟩
            have K5 := Lib.hid (KB.out.same c5)
            have J5 := Lib.hid ((JI.out.kept CB.out (fun h => h)).kept c5 (fun h => h))
            clear c5 y0 y1 x0 x1 x2 x3 x4
            go_wp2_with fail
            refine (turnj w5 J D 5 50 t U J5.out).mono ?_
            rintro e w' ⟨rfl, rfl⟩
            go_wp2_with fail
            refine (nextj w5 J D 5 50 t U J5.out).mono ?_
            rintro e w' ⟨rfl, rfl⟩
            go_wp2_with fail
            refine (roomj w5 J D 5 50 t U J5.out (by omega) (by omega)).mono ?_
            rintro e w6 ⟨nq, rfl, hw6⟩
            have c6 : Chg (fun _ => False) w5 w6 := by rw [hw6]; exact (Chg.refl _ w5).drewN nq
            have K6 := Lib.hid (K5.out.same c6)
            have e47 : (((50 - U) * 47 : Nat) : Int) = 47 * (50 - (U : Int)) := by omega
            have E47 : Hid ((((50 - U) * 47 : Nat) : Int) = 47 * (50 - (U : Int))) := e47
            rw [E47.out]
            clear hw6 c6 e47
            go_wp2_with fail
            exact ⟨⟨k + 1, t, J, done, behind, by omega, rfl, rfl, rfl, by rw [HU.out], ht1, by omega, by rw [← HDN.out, ← HBN.out]; omega, K6.out⟩, by simp only [intOf]; omega⟩
        · have i3 : ¬ (50 : Int) < (U : Int) + q := by omega
          by_cases hk1 : a.kind ≤ 1
          · have CM := Lib.hid (ju_commit KBJ.out J (.slice u dl uc) a.data KB.out.ji (.inl (.inl rfl)) (Z1.out.same (CH.out.trans CB.out)) hl600 (by rw [← HU.out, ← HQ.out]; omega) (by omega) (by omega))
            have HU2 : Hid (total (behind ++ [a.data]) = total behind + q) := by show _ = _; rw [total_snoc, ← HQ.out]
            have hJlt := JI.out.lt
            clear hfull
            go_wp2_with fail
            rw [← HWB.out]
            refine (CO.out _).mono ?_
            rintro e w' ⟨rfl, rfl⟩
            obtain ⟨y0, y1⟩ := BF.out (fun _ => False) wb (Chg.refl _ wb) (fun h => h)
            go_wp2_with fail
            refine CM.out.mono ?_
            rintro e w5 ⟨rfl, h5, j5, T5, c5, t5⟩
            have hz5 := c5.size
            have kd5 := KB.out.kd.kept c5 (fun a h1 h2 => ⟨(t5 a h1 h2).1, fun hv => KB.out.apJ a (.inl hv) ((t5 a h1 h2).2 (.inl (.inr (.inl hv))))⟩)
            have kb5 := KB.out.kb.kept c5 (fun a h1 h2 => ⟨(t5 a h1 h2).1, fun hv => KB.out.apJ a (.inr hv) ((t5 a h1 h2).2 (.inl (.inr (.inr hv))))⟩)
            have J5 : Hid (JIs w5 J D 5 50 t (U + q)) := by
              have := j5
              rw [show total (done ++ behind ++ [a.data]) + total [] = U + q by rw [total_snoc, total_append, ← HU.out, ← HQ.out]; rfl] at this
              exact this
            have hbxT : ¬ T5 wr.heap.size := fun h => by have := (t5 _ hbs h).2 (.inr rfl); omega
            obtain ⟨y0, y1⟩ := BF.out T5 w5 c5 hbxT
            obtain ⟨vs, r1, r2, r3⟩ := kb5
            have r1 : Owns w5 1 (.slice ba bn bc) bn vs := by have h := r1; rw [← HBN.out] at h; exact h
            have KD5 := Lib.hid kd5
            have H5 := Lib.hid h5
            have R2 := Lib.hid r2
            have R3 := Lib.hid r3
            have C5 := Lib.hid c5
            have hbk : Hid (∀ q, (Value.slice ba bn bc).ownBlock = some q → q < wr.heap.size) := fun q hq => (hKI.out.ju.S_lt q (.inr (.inr hq))).2
            have hdk : Hid (∀ q, (Value.slice da dn dc).ownBlock = some q → q < wr.heap.size) := fun q hq => (hKI.out.ju.S_lt q (.inr (.inl hq))).2
            have y0c : w5.heap[wr.heap.size]? = _ := c5.heap HBX.out hbxT
            have HB5 := Lib.hid y0c
            clear h5 j5 c5 t5 kd5 r2 r3 hbxT x0 x1 x2 x3 x4 y0c
            go_wp2_with fail
            refine (turnj w5 J D 5 50 t (U + q) J5.out).mono ?_
            rintro e w' ⟨rfl, rfl⟩
            go_wp2_with fail
            refine (CO.out _).mono ?_
            rintro e w' ⟨rfl, rfl⟩
            go_wp2_with (at_builtin; refine stop_ ?_)
            refine go_on ?_
            refine wpList_app_one rfl _ _ 43 rfl 33 (.slice none 0 0) 1 24 Try.underlying43 Try.infoBs rfl (.slice ba bn bc) bn vs [.slice u dl uc] _ rfl rfl r1 rfl (by simp [Value.oneCell']) (by simp only [maxLen]; omega) (by omega) ?_
            intro v6 w6 own6 c6 in6 nn6
            have hz6 := c6.size
            have kb6 : KR w1 w6 v6 (behind ++ [a.data]) := KR.push (by rw [← HBN.out]; exact r1) R2.out R3.out (by have := CB.out.size; omega) Z1.out (by rw [← HBN.out]; exact own6) in6
            have kd6 := KD5.out.kept c6 (fun a h1 h2 => ⟨R3.out a h2, fun hv => hKI.out.apV a hv h2⟩)
            have j6 : JIs w6 J D 5 50 t (U + q) := J5.out.kept c6 (fun h => hKI.out.apJ J (.inr h) rfl)
            have y6 : w6.cell? ⟨wr.heap.size, 0, none⟩ = some (.int .i64 a.kind) := by
              rw [cell_of_heap (c6.heap HB5.out (fun h => by have := hbk.out _ h; omega))]; rfl
            have h6 := H5.out.kept (S' := fun q => (S3 J (.slice da dn dc) (.slice ba bn bc) q ∨ q = wr.heap.size) ∨ v6.ownBlock = some q) c6 (fun a _ h => .inl (.inr (.inr h))) (fun a ha => by
              rcases ha with ha | ha
              · exact .inl ha
              · rcases in6 a ha with h8 | h8
                · exact .inl (.inl (.inr (.inr h8)))
                · exact .inr ⟨h8, own6.lt a ha⟩)
            have ap6 : ∀ q, v6.ownBlock = some q → q ≠ J ∧ ¬ (Value.slice da dn dc).ownBlock = some q := fun q hq => by
              rcases in6 q hq with h8 | h8
              · exact ⟨hKI.out.apJ q (.inr h8), fun h => hKI.out.apV q h h8⟩
              · exact ⟨by omega, fun h => by have := hdk.out q h; omega⟩
            obtain ⟨va6, vc6, rfl⟩ := own6.form
            have J6 := Lib.hid j6
            have KB6 := Lib.hid kb6
            have KD6 := Lib.hid kd6
            have H6 := Lib.hid h6
            have AP6 := Lib.hid ap6
            have e47 : (((50 - (U + q)) * 47 : Nat) : Int) = 47 * (50 - ((U : Int) + q)) := by omega
            have E47 := Lib.hid e47
            have eUq : Hid (((U + q : Nat) : Int) = (U : Int) + q) := by show _ = _; omega
            clear own6 c6 in6 nn6 kb6 kd6 j6 h6 ap6 r1 e47 y0 y1
            obtain ⟨us, ow6, k6, f6⟩ := KB6.out
            obtain ⟨ds, dw6, d6, g6⟩ := KD6.out
            have hdl2 : done.length = dn := HDN.out.symm
            have hbl2 : (behind ++ [a.data]).length = bn + 1 := by rw [List.length_append, ← HBN.out]; rfl
            have husl : us.length = (behind ++ [a.data]).length := by have := ow6.1; omega
            have hdsl : ds.length = done.length := by have := dw6.1; omega
            have hone := kr_one husl k6
            rw [hbl2] at ow6
            rw [hdl2] at dw6
            have hdc : dn ≤ dc := by have := dw6.cap_ge; omega
            have dw7 : Owns w6 1 (.slice da dn dn) dn ds := by
              have := Owns.front dw6 (hi := dn) (m := dn) (Nat.le_refl _) (Nat.le_refl _) hdc
              rw [List.take_of_length_le (by rw [hdsl, hdl2]; omega)] at this
              exact this
            have hfl := fun w => slice_full43 w da dn dc hdc
            have KK6 := Lib.hid k6
            have DD6 := Lib.hid d6
            have FF6 := Lib.hid f6
            have GG6 := Lib.hid g6
            have rd6 := ow6.reads
            have HUSL := Lib.hid husl
            have HDSL := Lib.hid hdsl
            clear k6 d6 f6 g6 husl hdsl dw6 ow6 hdl2
            have HBL2 := Lib.hid hbl2
            clear hbl2
            go_wp2_with (at_builtin; refine stop_ ?_)
            refine go_on ?_
            obtain ⟨ii, hi, hz0, hz1, hz2⟩ := info_parts Try.infoBs
            refine wpList_app rfl _ _ 43 rfl 33 ii (.slice none 0 0) 1 24 Try.underlying43 hi hz0 hz1 hz2 rfl (.slice da dn dn) dn ds rfl dw7 (.slice va6 (bn + 1) vc6) (bn + 1) us rfl rd6 hone (by simp only [maxLen]; omega) (by omega) ?_
            intro v7 w7 own7 c7 in7 nn7
            simp only [own_eq da dn dn dn dc] at c7 in7
            have hz7 := c7.size
            have kd7 : KR w1 w7 v7 (done ++ (behind ++ [a.data])) := KR.cat HDSL.out DD6.out KK6.out (by rw [HBL2.out, ← HDN.out]; exact own7) (fun q hq => by
              rcases in7 q hq with h | h
              · exact GG6.out q h
              · have := CB.out.size; omega)
            have j7 : JIs w7 J D 5 50 t (U + q) := J6.out.kept c7 (fun h => hKI.out.apJ J (.inl h) rfl)
            have h7 : JU w1 w7 D 60 5 50 t (fun o => ¬ sound o) (done ++ behind ++ [a.data]) [] (S3 J v7 (.slice none 0 0)) := H6.out.kept c7 (fun q _ h => .inl (.inl (.inr (.inl h)))) (fun q hq => by
              rcases hq with hq | hq | hq
              · exact .inl (.inl (.inl (.inl hq)))
              · rcases in7 q hq with h | h
                · exact .inl (.inl (.inl (.inr (.inl h))))
                · exact .inr ⟨by omega, own7.lt q hq⟩
              · simp [Value.ownBlock] at hq)
            have a7 : ∀ q, v7.ownBlock = some q → q ≠ J := fun q hq => by
              rcases in7 q hq with h | h
              · exact hKI.out.apJ q (.inl h)
              · omega
            have JW7 := Lib.hid j7
            have KD7 := Lib.hid kd7
            have H7 := Lib.hid h7
            have A7 := Lib.hid a7
            clear own7 c7 in7 nn7 kd7 j7 h7 a7 dw7 rd6 hone hfl hi hz0 hz1 hz2 y6
            have y6 : True := trivial
            go_wp2_with fail
            refine (nextj w7 J D 5 50 t (U + q) JW7.out).mono ?_
            rintro e w' ⟨rfl, rfl⟩
            rw [eUq.out]
            go_wp2_with fail
            refine (roomj w7 J D 5 50 t (U + q) JW7.out (by omega) (by omega)).mono ?_
            rintro e w9 ⟨nq, rfl, hw9⟩
            have c9 : Chg (fun _ => False) w7 w9 := by rw [hw9]; exact (Chg.refl _ w7).drewN nq
            rw [E47.out]
            have C9 := Lib.hid c9
            clear hw9 c9 y6
            go_wp2_with fail
            refine ⟨⟨k + 1, t, J, done ++ behind ++ [a.data], [], by omega, rfl, rfl, rfl, ?_, ht1, by omega, by rw [List.length_append, List.length_append, ← HDN.out, ← HBN.out]; simp; omega, ?_⟩, by simp only [intOf]; omega⟩
            · rw [total_snoc, total_append, ← HU.out, ← HQ.out, show U + q + total [] = U + q from rfl, eUq.out]
            · have K7 : KI w1 w7 D J t (done ++ behind ++ [a.data]) [] v7 (.slice none 0 0) := ⟨H7.out, by rw [total_snoc, total_append, ← HU.out, ← HQ.out]; exact JW7.out, by rw [List.append_assoc]; exact KD7.out, KR.nil _ _, fun q hq => by
                  rcases hq with hq | hq
                  · exact A7.out q hq
                  · simp [Value.ownBlock] at hq, fun q _ h => by simp [Value.ownBlock] at h⟩
              exact K7.same C9.out
          · have hk1' : ¬ a.kind ≤ 1 := hk1
            have CM := Lib.hid (ju_write KBJ.out J (.slice u dl uc) a.data KB.out.ji (.inl (.inl rfl)) (Z1.out.same (CH.out.trans CB.out)) hl600 (by rw [← HU.out, ← HQ.out]; omega) (by omega) (by omega))
            have HU2 : Hid (total (behind ++ [a.data]) = total behind + q) := by show _ = _; rw [total_snoc, ← HQ.out]
            have hJlt := JI.out.lt
            clear hfull
            go_wp2_with fail
            rw [← HWB.out]
            refine (CO.out _).mono ?_
            rintro e w' ⟨rfl, rfl⟩
            obtain ⟨y0, y1⟩ := BF.out (fun _ => False) wb (Chg.refl _ wb) (fun h => h)
            go_wp2_with fail
            refine CM.out.mono ?_
            rintro e w5 ⟨rfl, h5, j5, T5, c5, t5⟩
            have hz5 := c5.size
            have kd5 := KB.out.kd.kept c5 (fun a h1 h2 => ⟨(t5 a h1 h2).1, fun hv => KB.out.apJ a (.inl hv) ((t5 a h1 h2).2 (.inl (.inr (.inl hv))))⟩)
            have kb5 := KB.out.kb.kept c5 (fun a h1 h2 => ⟨(t5 a h1 h2).1, fun hv => KB.out.apJ a (.inr hv) ((t5 a h1 h2).2 (.inl (.inr (.inr hv))))⟩)
            have J5 : Hid (JIs w5 J D 5 50 t (U + q)) := by
              have := j5
              rw [show total done + total (behind ++ [a.data]) = U + q by rw [HU2.out, HU.out]; omega] at this
              exact this
            have hbxT : ¬ T5 wr.heap.size := fun h => by have := (t5 _ hbs h).2 (.inr rfl); omega
            obtain ⟨y0, y1⟩ := BF.out T5 w5 c5 hbxT
            obtain ⟨vs, r1, r2, r3⟩ := kb5
            have r1 : Owns w5 1 (.slice ba bn bc) bn vs := by have h := r1; rw [← HBN.out] at h; exact h
            have KD5 := Lib.hid kd5
            have H5 := Lib.hid h5
            have R2 := Lib.hid r2
            have R3 := Lib.hid r3
            have C5 := Lib.hid c5
            have hbk : Hid (∀ q, (Value.slice ba bn bc).ownBlock = some q → q < wr.heap.size) := fun q hq => (hKI.out.ju.S_lt q (.inr (.inr hq))).2
            have hdk : Hid (∀ q, (Value.slice da dn dc).ownBlock = some q → q < wr.heap.size) := fun q hq => (hKI.out.ju.S_lt q (.inr (.inl hq))).2
            have y0c : w5.heap[wr.heap.size]? = _ := c5.heap HBX.out hbxT
            have HB5 := Lib.hid y0c
            clear h5 j5 c5 t5 kd5 r2 r3 hbxT x0 x1 x2 x3 x4 y0c
            go_wp2_with fail
            refine (turnj w5 J D 5 50 t (U + q) J5.out).mono ?_
            rintro e w' ⟨rfl, rfl⟩
            go_wp2_with fail
            refine (CO.out _).mono ?_
            rintro e w' ⟨rfl, rfl⟩
            go_wp2_with (at_builtin; refine stop_ ?_)
            refine go_on ?_
            refine wpList_app_one rfl _ _ 43 rfl 33 (.slice none 0 0) 1 24 Try.underlying43 Try.infoBs rfl (.slice ba bn bc) bn vs [.slice u dl uc] _ rfl rfl r1 rfl (by simp [Value.oneCell']) (by simp only [maxLen]; omega) (by omega) ?_
            intro v6 w6 own6 c6 in6 nn6
            have hz6 := c6.size
            have kb6 : KR w1 w6 v6 (behind ++ [a.data]) := KR.push (by rw [← HBN.out]; exact r1) R2.out R3.out (by have := CB.out.size; omega) Z1.out (by rw [← HBN.out]; exact own6) in6
            have kd6 := KD5.out.kept c6 (fun a h1 h2 => ⟨R3.out a h2, fun hv => hKI.out.apV a hv h2⟩)
            have j6 : JIs w6 J D 5 50 t (U + q) := J5.out.kept c6 (fun h => hKI.out.apJ J (.inr h) rfl)
            have y6 : w6.cell? ⟨wr.heap.size, 0, none⟩ = some (.int .i64 a.kind) := by
              rw [cell_of_heap (c6.heap HB5.out (fun h => by have := hbk.out _ h; omega))]; rfl
            have h6 := H5.out.kept (S' := fun q => (S3 J (.slice da dn dc) (.slice ba bn bc) q ∨ q = wr.heap.size) ∨ v6.ownBlock = some q) c6 (fun a _ h => .inl (.inr (.inr h))) (fun a ha => by
              rcases ha with ha | ha
              · exact .inl ha
              · rcases in6 a ha with h8 | h8
                · exact .inl (.inl (.inr (.inr h8)))
                · exact .inr ⟨h8, own6.lt a ha⟩)
            have ap6 : ∀ q, v6.ownBlock = some q → q ≠ J ∧ ¬ (Value.slice da dn dc).ownBlock = some q := fun q hq => by
              rcases in6 q hq with h8 | h8
              · exact ⟨hKI.out.apJ q (.inr h8), fun h => hKI.out.apV q h h8⟩
              · exact ⟨by omega, fun h => by have := hdk.out q h; omega⟩
            obtain ⟨va6, vc6, rfl⟩ := own6.form
            have J6 := Lib.hid j6
            have KB6 := Lib.hid kb6
            have KD6 := Lib.hid kd6
            have H6 := Lib.hid h6
            have AP6 := Lib.hid ap6
            have e47 : (((50 - (U + q)) * 47 : Nat) : Int) = 47 * (50 - ((U : Int) + q)) := by omega
            have E47 := Lib.hid e47
            have eUq : Hid (((U + q : Nat) : Int) = (U : Int) + q) := by show _ = _; omega
            clear own6 c6 in6 nn6 kb6 kd6 j6 h6 ap6 r1 e47 y0 y1
            go_wp2_with fail
            refine (nextj w6 J D 5 50 t (U + q) J6.out).mono ?_
            rintro e w' ⟨rfl, rfl⟩
            rw [eUq.out]
            go_wp2_with fail
            refine (roomj w6 J D 5 50 t (U + q) J6.out (by omega) (by omega)).mono ?_
            rintro e w9 ⟨nq, rfl, hw9⟩
            have c9 : Chg (fun _ => False) w6 w9 := by rw [hw9]; exact (Chg.refl _ w6).drewN nq
            rw [E47.out]
            have C9 := Lib.hid c9
            clear hw9 c9 y6
            go_wp2_with fail
            refine ⟨⟨k + 1, t, J, done, behind ++ [a.data], by omega, rfl, rfl, rfl, ?_, ht1, by omega, by rw [List.length_append, ← HDN.out, ← HBN.out]; simp; omega, ?_⟩, by simp only [intOf]; omega⟩
            · rw [HU2.out, show total done + (total behind + q) = U + q by rw [HU.out]; omega, eUq.out]
            · have K6 : KI w1 w6 D J t done (behind ++ [a.data]) (.slice da dn dc) (.slice va6 (bn + 1) vc6) := ⟨H6.out.kept (Chg.refl (fun _ => False) w6) (fun _ _ h => h.elim) (fun q hq => .inl (by
                rcases hq with hq | hq | hq
                · exact .inl (.inl (.inl hq))
                · exact .inl (.inl (.inr (.inl hq)))
                · exact .inr hq)), by rw [HU2.out, show total done + (total behind + q) = U + q by rw [HU.out]; omega]; exact J6.out, KD6.out, KB6.out, fun q hq => by
                  rcases hq with hq | hq
                  · exact hKI.out.apJ q (.inl hq)
                  · exact (AP6.out q hq).1, fun q hq h => (AP6.out q h).2 hq⟩
              exact K6.same C9.out
      · have KS : Hid (JU w1 wb D 60 5 50 t (fun o => ¬ sound o) done behind (S3 J (.slice da dn dc) (.slice ba bn bc))) := KB.out.ju
        have CR := Lib.hid (ju_crash KS.out a.keep a.torn a.bytes (by omega) (by omega) (by omega) (.inr (fun _ h => h)))
        have hno : ¬ (0 ≤ a.kind ∧ a.kind ≤ 3) := hkind
        have HNE : Hid (dn ≠ 0 → done ≠ []) := fun h h2 => h (by rw [HDN.out, h2]; rfl)
        have y2 : wb.cell? ⟨wr.heap.size, 2, none⟩ = some (.int .u64 a.keep) := by rw [cell_of_heap HBX.out]; rfl
        have y3 : wb.cell? ⟨wr.heap.size, 3, none⟩ = some (.int .i64 a.torn) := by rw [cell_of_heap HBX.out]; rfl
        have y4 : wb.cell? ⟨wr.heap.size, 4, none⟩ = some (.int .i64 a.bytes) := by rw [cell_of_heap HBX.out]; rfl
        rw [HWB.out] at y2 y3 y4 CR
        have hkk : (a.kind < 0) ∨ (0 ≤ a.kind ∧ 3 < a.kind) := by omega
        clear hkind hno
        by_cases hneg : a.kind < 0
        · have kn : ¬ 0 ≤ a.kind := by omega
          clear hkk
          go_wp2_with fail
          refine CR.out.mono ?_
          rintro e w5 ⟨rfl, h5, T5, c5, t5⟩
          rw [← HWB.out] at c5 t5
          have kd5 := KB.out.kd.kept c5 (fun a h1 h2 => ⟨(t5 a h1 h2).1, fun hv => (t5 a h1 h2).2 (.inr (.inl hv))⟩)
          have kb5 := KB.out.kb.kept c5 (fun a h1 h2 => ⟨(t5 a h1 h2).1, fun hv => (t5 a h1 h2).2 (.inr (.inr hv))⟩)
          have H5 := Lib.hid h5
          have KD5 := Lib.hid kd5
          have KB5 := Lib.hid kb5
          clear h5 c5 t5 kd5 kb5 y2 y3 y4 x0 x1 x2 x3 x4
          go_wp2_with fail
          refine (cu_up H5.out).mono ?_
          rintro e w6 ⟨rfl, h6, T6, c6, t6⟩
          have kd6 := KD5.out.kept c6 (fun a h1 h2 => ⟨(t6 a h1 h2).1, fun hv => (t6 a h1 h2).2 (.inr (.inl hv))⟩)
          have kb6 := KB5.out.kept c6 (fun a h1 h2 => ⟨(t6 a h1 h2).1, fun hv => (t6 a h1 h2).2 (.inr (.inr hv))⟩)
          have H6 := Lib.hid h6
          have KD6 := Lib.hid kd6
          have KB6 := Lib.hid kb6
          clear h6 c6 t6 kd6 kb6
          go_wp2_with fail
          refine (cu_read H6.out (by omega)).mono ?_
          rintro e w7 ⟨v, F, t', p, rfl, hp, h7, hF, ht', h8, c7⟩
          have kd7 := (KD6.out.kept c7 (fun _ _ h => h.elim)).rbs h8.chg
          have kb7 := (KB6.out.kept c7 (fun _ _ h => h.elim)).rbs h8.chg
          have BG := Lib.hid (begins_true v (.slice da dn dc) (.slice ba bn bc) (done ++ p) done behind p w7 h7.rbs kd7 kb7 hp rfl (by rw [← HDN.out, ← HBN.out]; omega))
          obtain ⟨va, vc, rfl⟩ := h7.form
          generalize (done ++ p).length = vn at BG ⊢
          have H8 := Lib.hid h8
          have WI := Lib.hid (cu_wipe H8.out (by omega) (by omega) (t + 1) (by omega) (by omega))
          have ND := Lib.hid (fun (w8 : World) (h : JU w1 w8 D 60 5 50 (t + 1) (fun o => ¬ sound o) [] [] (S3 J (.slice da dn dc) (.slice ba bn bc))) => ju_newj h 5 50 (t + 1) (by omega) (by omega) (by omega))
          simp only [show ((t + 1 : Nat) : Int) = (t : Int) + 1 by omega] at ND
          have ht41 : t ≤ 41 := by omega
          clear hp h7 hF h8 c7 kd7 kb7
          by_cases hd0 : dn = 0
          · have zd : ¬ (0 : Int) < dn := by omega
            clear ht' hd0
            go_wp2_with fail
            refine BG.out.mono ?_
            rintro e w' ⟨rfl, rfl⟩
            go_wp2_with fail
            refine WI.out.mono ?_
            rintro e w8 ⟨rfl, g8, _⟩
            have G8 := Lib.hid g8
            clear g8
            go_wp2_with fail
            refine (ju_read0 G8.out (by omega) (by omega) (by omega) (fun _ h => h)).mono ?_
            rintro e w9 ⟨v9, F9, rfl, o9, g9, c9⟩
            obtain ⟨a9, k9, rfl⟩ := o9.form
            have G9 := Lib.hid g9
            clear o9 g9 c9
            go_wp2_with fail
            refine (ND.out w9 G9.out).mono ?_
            rintro e w10 ⟨J2, rfl, g10, j10, z10, c10⟩
            have K10 : Hid (KI w1 w10 D J2 (t + 1) [] [] (.slice none 0 0) (.slice none 0 0)) := ⟨g10.kept (Chg.refl (fun _ => False) w10) (fun _ _ h => h.elim) (fun k hk => .inl (by
              rcases hk with hk | hk | hk
              · exact .inr hk
              · simp [Value.ownBlock] at hk
              · simp [Value.ownBlock] at hk)), j10, KR.nil _ _, KR.nil _ _, fun q h => by simp [Value.ownBlock] at h, fun q h => by simp [Value.ownBlock] at h⟩
            clear g10 j10 z10 c10
            go_wp2_with fail
            exact ⟨⟨k + 1, t + 1, J2, [], [], by omega, rfl, congrArg (Value.int .u32) (show (t : Int) + 1 = ((t + 1 : Nat) : Int) by omega), rfl, congrArg (Value.int .i64) (show (0 : Int) = ((total [] + total [] : Nat) : Int) by simp [total]), by omega, by omega, by simp, K10.out⟩, by simp only [intOf]; omega⟩
          · have zd : (0 : Int) < dn := by omega
            obtain rfl : t = t' := (ht' (HNE.out hd0)).symm
            clear ht' hd0
            go_wp2_with fail
            refine BG.out.mono ?_
            rintro e w' ⟨rfl, rfl⟩
            go_wp2_with fail
            refine WI.out.mono ?_
            rintro e w8 ⟨rfl, g8, _⟩
            have G8 := Lib.hid g8
            clear g8
            go_wp2_with fail
            refine (ju_read0 G8.out (by omega) (by omega) (by omega) (fun _ h => h)).mono ?_
            rintro e w9 ⟨v9, F9, rfl, o9, g9, c9⟩
            obtain ⟨a9, k9, rfl⟩ := o9.form
            have G9 := Lib.hid g9
            clear o9 g9 c9
            go_wp2_with fail
            refine (ND.out w9 G9.out).mono ?_
            rintro e w10 ⟨J2, rfl, g10, j10, z10, c10⟩
            have K10 : Hid (KI w1 w10 D J2 (t + 1) [] [] (.slice none 0 0) (.slice none 0 0)) := ⟨g10.kept (Chg.refl (fun _ => False) w10) (fun _ _ h => h.elim) (fun k hk => .inl (by
              rcases hk with hk | hk | hk
              · exact .inr hk
              · simp [Value.ownBlock] at hk
              · simp [Value.ownBlock] at hk)), j10, KR.nil _ _, KR.nil _ _, fun q h => by simp [Value.ownBlock] at h, fun q h => by simp [Value.ownBlock] at h⟩
            clear g10 j10 z10 c10
            go_wp2_with fail
            exact ⟨⟨k + 1, t + 1, J2, [], [], by omega, rfl, congrArg (Value.int .u32) (show (t : Int) + 1 = ((t + 1 : Nat) : Int) by omega), rfl, congrArg (Value.int .i64) (show (0 : Int) = ((total [] + total [] : Nat) : Int) by simp [total]), by omega, by omega, by simp, K10.out⟩, by simp only [intOf]; omega⟩
        · have kn : 0 ≤ a.kind := by omega
          have kp : ¬ a.kind ≤ 3 := by omega
          clear hkk hneg
          go_wp2_with fail
          refine CR.out.mono ?_
          rintro e w5 ⟨rfl, h5, T5, c5, t5⟩
          rw [← HWB.out] at c5 t5
          have kd5 := KB.out.kd.kept c5 (fun a h1 h2 => ⟨(t5 a h1 h2).1, fun hv => (t5 a h1 h2).2 (.inr (.inl hv))⟩)
          have kb5 := KB.out.kb.kept c5 (fun a h1 h2 => ⟨(t5 a h1 h2).1, fun hv => (t5 a h1 h2).2 (.inr (.inr hv))⟩)
          have H5 := Lib.hid h5
          have KD5 := Lib.hid kd5
          have KB5 := Lib.hid kb5
          clear h5 c5 t5 kd5 kb5 y2 y3 y4 x0 x1 x2 x3 x4
          go_wp2_with fail
          refine (cu_up H5.out).mono ?_
          rintro e w6 ⟨rfl, h6, T6, c6, t6⟩
          have kd6 := KD5.out.kept c6 (fun a h1 h2 => ⟨(t6 a h1 h2).1, fun hv => (t6 a h1 h2).2 (.inr (.inl hv))⟩)
          have kb6 := KB5.out.kept c6 (fun a h1 h2 => ⟨(t6 a h1 h2).1, fun hv => (t6 a h1 h2).2 (.inr (.inr hv))⟩)
          have H6 := Lib.hid h6
          have KD6 := Lib.hid kd6
          have KB6 := Lib.hid kb6
          clear h6 c6 t6 kd6 kb6
          go_wp2_with fail
          refine (cu_read H6.out (by omega)).mono ?_
          rintro e w7 ⟨v, F, t', p, rfl, hp, h7, hF, ht', h8, c7⟩
          have kd7 := (KD6.out.kept c7 (fun _ _ h => h.elim)).rbs h8.chg
          have kb7 := (KB6.out.kept c7 (fun _ _ h => h.elim)).rbs h8.chg
          have BG := Lib.hid (begins_true v (.slice da dn dc) (.slice ba bn bc) (done ++ p) done behind p w7 h7.rbs kd7 kb7 hp rfl (by rw [← HDN.out, ← HBN.out]; omega))
          obtain ⟨va, vc, rfl⟩ := h7.form
          generalize (done ++ p).length = vn at BG ⊢
          have H8 := Lib.hid h8
          have WI := Lib.hid (cu_wipe H8.out (by omega) (by omega) (t + 1) (by omega) (by omega))
          have ND := Lib.hid (fun (w8 : World) (h : JU w1 w8 D 60 5 50 (t + 1) (fun o => ¬ sound o) [] [] (S3 J (.slice da dn dc) (.slice ba bn bc))) => ju_newj h 5 50 (t + 1) (by omega) (by omega) (by omega))
          simp only [show ((t + 1 : Nat) : Int) = (t : Int) + 1 by omega] at ND
          have ht41 : t ≤ 41 := by omega
          clear hp h7 hF h8 c7 kd7 kb7
          by_cases hd0 : dn = 0
          · have zd : ¬ (0 : Int) < dn := by omega
            clear ht' hd0
            go_wp2_with fail
            refine BG.out.mono ?_
            rintro e w' ⟨rfl, rfl⟩
            go_wp2_with fail
            refine WI.out.mono ?_
            rintro e w8 ⟨rfl, g8, _⟩
            have G8 := Lib.hid g8
            clear g8
            go_wp2_with fail
            refine (ju_read0 G8.out (by omega) (by omega) (by omega) (fun _ h => h)).mono ?_
            rintro e w9 ⟨v9, F9, rfl, o9, g9, c9⟩
            obtain ⟨a9, k9, rfl⟩ := o9.form
            have G9 := Lib.hid g9
            clear o9 g9 c9
            go_wp2_with fail
            refine (ND.out w9 G9.out).mono ?_
            rintro e w10 ⟨J2, rfl, g10, j10, z10, c10⟩
            have K10 : Hid (KI w1 w10 D J2 (t + 1) [] [] (.slice none 0 0) (.slice none 0 0)) := ⟨g10.kept (Chg.refl (fun _ => False) w10) (fun _ _ h => h.elim) (fun k hk => .inl (by
              rcases hk with hk | hk | hk
              · exact .inr hk
              · simp [Value.ownBlock] at hk
              · simp [Value.ownBlock] at hk)), j10, KR.nil _ _, KR.nil _ _, fun q h => by simp [Value.ownBlock] at h, fun q h => by simp [Value.ownBlock] at h⟩
            clear g10 j10 z10 c10
            go_wp2_with fail
            exact ⟨⟨k + 1, t + 1, J2, [], [], by omega, rfl, congrArg (Value.int .u32) (show (t : Int) + 1 = ((t + 1 : Nat) : Int) by omega), rfl, congrArg (Value.int .i64) (show (0 : Int) = ((total [] + total [] : Nat) : Int) by simp [total]), by omega, by omega, by simp, K10.out⟩, by simp only [intOf]; omega⟩
          · have zd : (0 : Int) < dn := by omega
            obtain rfl : t = t' := (ht' (HNE.out hd0)).symm
            clear ht' hd0
            go_wp2_with fail
            refine BG.out.mono ?_
            rintro e w' ⟨rfl, rfl⟩
            go_wp2_with fail
            refine WI.out.mono ?_
            rintro e w8 ⟨rfl, g8, _⟩
            have G8 := Lib.hid g8
            clear g8
            go_wp2_with fail
            refine (ju_read0 G8.out (by omega) (by omega) (by omega) (fun _ h => h)).mono ?_
            rintro e w9 ⟨v9, F9, rfl, o9, g9, c9⟩
            obtain ⟨a9, k9, rfl⟩ := o9.form
            have G9 := Lib.hid g9
            clear o9 g9 c9
            go_wp2_with fail
            refine (ND.out w9 G9.out).mono ?_
            rintro e w10 ⟨J2, rfl, g10, j10, z10, c10⟩
            have K10 : Hid (KI w1 w10 D J2 (t + 1) [] [] (.slice none 0 0) (.slice none 0 0)) := ⟨g10.kept (Chg.refl (fun _ => False) w10) (fun _ _ h => h.elim) (fun k hk => .inl (by
              rcases hk with hk | hk | hk
              · exact .inr hk
              · simp [Value.ownBlock] at hk
              · simp [Value.ownBlock] at hk)), j10, KR.nil _ _, KR.nil _ _, fun q h => by simp [Value.ownBlock] at h, fun q h => by simp [Value.ownBlock] at h⟩
            clear g10 j10 z10 c10
            go_wp2_with fail
            exact ⟨⟨k + 1, t + 1, J2, [], [], by omega, rfl, congrArg (Value.int .u32) (show (t : Int) + 1 = ((t + 1 : Nat) : Int) by omega), rfl, congrArg (Value.int .i64) (show (0 : Int) = ((total [] + total [] : Nat) : Int) by simp [total]), by omega, by omega, by simp, K10.out⟩, by simp only [intOf]; omega⟩
    · obtain rfl : k = m := by omega
      have RD := Lib.hid (ju_read hKI.out.ju (by omega) (by omega) (by omega) (.inr (fun _ h => h)))
      have hdc : dn ≤ dc := by obtain ⟨vs, h1, _⟩ := hKI.out.kd; have := h1.cap_ge; omega
      go_wp2_with fail
      refine RD.out.mono ?_
      rintro e w5 ⟨v, F, t', rfl, h5, hF, ht', h6, c6⟩
      obtain ⟨ds, dw6, d6, g6⟩ := hKI.out.kd.kept c6 (fun _ _ h => h.elim)
      obtain ⟨us, ow6, k6, f6⟩ := hKI.out.kb.kept c6 (fun _ _ h => h.elim)
      have hdsl : ds.length = done.length := by have := dw6.1; omega
      have husl : us.length = behind.length := by have := ow6.1; omega
      have hone := kr_one husl k6
      rw [← HBN.out] at ow6
      rw [← HDN.out] at dw6
      have dw7 : Owns w5 1 (.slice da dn dn) dn ds := by
        have := Owns.front dw6 (hi := dn) (m := dn) (Nat.le_refl _) (Nat.le_refl _) hdc
        rw [List.take_of_length_le (by rw [hdsl, ← HDN.out]; omega)] at this
        exact this
      have rd6 := ow6.reads
      have hfl := fun w => slice_full43 w da dn dc hdc
      have hda : Hid (∀ q, (Value.slice da dn dc).ownBlock = some q → w1.heap.size ≤ q) := g6
      have OV := Lib.hid h5
      obtain ⟨va, vc, rfl⟩ := h5.form
      obtain ⟨vn, hvn⟩ : ∃ n, n = (done ++ behind).length := ⟨_, rfl⟩
      have HVN := Lib.hid hvn
      have hvl : vn ≤ dn + bn := by rw [hvn, List.length_append, ← HDN.out, ← HBN.out]; exact Nat.le_refl _
      have hF := Lib.hid hF
      have hdlt : Hid (∀ q, (Value.slice da dn dc).ownBlock = some q → q < wr.heap.size) := fun q hq => (hKI.out.ju.S_lt q (.inr (.inl hq))).2
      rw [← hvn]
      rw [← hvn] at OV
      have H6 := Lib.hid h6
      have KK6 := Lib.hid k6
      have DD6 := Lib.hid d6
      have HUSL := Lib.hid husl
      have HDSL := Lib.hid hdsl
      clear hvn h5 ht' h6 c6 d6 g6 k6 f6 husl hdsl dw6 ow6
      go_wp2_with (at_builtin; refine stop_ ?_)
      refine go_on ?_
      refine wpList_appG _ _ 43 rfl (by kernel_rfl) 33 (.slice none 0 0) 1 24 Try.underlying43 Try.infoBs rfl (.slice da dn dn) dn ds rfl dw7 (.slice ba bn bc) bn us rfl rd6 hone (by simp only [maxLen]; omega) (by omega) ?_
      intro v7 w7 own7 c7 in7
      simp only [own_eq da dn dn dn dc] at c7 in7
      have ch5 := H6.out.chg
      have kr7 : KR w1 w7 v7 (done ++ behind) := KR.cat HDSL.out DD6.out KK6.out (by rw [← HBN.out, ← HDN.out]; exact own7) (fun q hq => by
        rcases in7 q hq with h | h
        · exact hda.out q h
        · have := ch5.size; omega)
      have ch7 : Chg (fun _ => False) w1 w7 := ch5.new c7 (fun q hq => hda.out q hq)
      have ov7 := OV.out.kept c7 (fun q hq h => by have := hF.out q hq; have := hdlt.out q h; omega)
      have BG := Lib.hid (begins_true (.slice va vn vc) v7 (.slice none 0 0) (done ++ behind) (done ++ behind) [] [] w7 ov7.rbs (kr7.rbs ch7) ⟨[], Reads.nil w7 1, by simp⟩ (List.prefix_refl _) (by simp) (by rw [← HVN.out]; simp only [List.length_nil]; omega))
      have CH7 := Lib.hid ch7
      clear own7 c7 in7 ch5 kr7 ch7 ov7 dw7 rd6 hone hfl
      go_wp2_with fail
      refine BG.out.mono ?_
      rintro e w' ⟨rfl, rfl⟩
      go_wp2_with fail
      go_ret
      exact ⟨rfl, C1.out.trans CH7.out⟩
end Go.Proofs.Ytjhkhdockiocgaa
