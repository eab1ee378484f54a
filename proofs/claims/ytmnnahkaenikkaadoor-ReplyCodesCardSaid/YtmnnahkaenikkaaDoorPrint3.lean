/- json.Print of a thing; of any value. -/
import Derived.Test.YtmnnahkaenikkaaDoorPrint2
import Derived.Test.YtmnnahkaenikkaaDoorT
namespace Go.Proofs.YtmnnahkaenikkaaDoor
open Go.RowKit Go.Cat

set_option maxRecDepth 100000 in
set_option maxHeartbeats 2000000 in
theorem print_thing (m : Nat) (IH : PrintsUp m) (ns : List (List UInt8)) (l : List JV) (cs : List Value) (w : World) (hsz : JV.sizes l ≤ m) (hok : JV.oks l) (hl : (JV.thing ns l).txt.length ≤ 1000000000) (hr : (JV.thing ns l).Rep w cs) (ht : Tab w) :
    Calls Tryd.prog 10 #[.agg cs.toArray] w fun e w' => e = .returned (.string ⟨(JV.thing ns l).txt.toArray⟩) ∧ Chg (fun _ => False) w w' := by
  simp only [JV.Rep] at hr
  obtain ⟨h1, a1, a2, a3, a4, v, xs, rfl, hv, hL⟩ := hr
  clear h1
  have hnl := JV.repP_len w l ns xs hL
  obtain ⟨N, hN⟩ : ∃ N, N = namedT ns (JV.txts l) := ⟨_, rfl⟩
  have hNl : N.length = l.length := by rw [hN, namedT_len _ _ (by rw [JV.txts_len]; exact hnl), JV.txts_len]
  have hlj : (Lib.join N [44]).length ≤ 999999998 := by
    simp only [JV.txt, List.length_cons, List.length_append, List.length_nil] at hl; rw [hN]; omega
  have hcnt := join_count N
  rw [hNl] at hcnt
  have htxt : (JV.thing ns l).txt = [123] ++ Lib.join N [44] ++ [125] := by simp [JV.txt, hN]
  rw [htxt]
  clear hl htxt
  obtain ⟨va, vc, rfl⟩ := hv.form
  obtain ⟨n, hn⟩ : ∃ n, n = l.length := ⟨_, rfl⟩
  rw [← hn] at hv hcnt hNl ⊢
  have HN := Lib.hid hn
  have HNN := Lib.hid hN
  have HNL := Lib.hid hNl
  have HV := Lib.hid hv
  have HL := Lib.hid hL
  have HT := Lib.hid ht
  have HO := Lib.hid hok
  have HI := Lib.hid IH
  clear hn hN hNl hv hL ht hok IH hnl
  go_enter Tryd.func10, Tryd.ntmps10
  go_wp2_with fail
  go_loopw [6, 8, 50] (fun out _ i wr => ∃ k : Nat, k ≤ n ∧ i = .int .i64 k ∧ Owns wr 1 out k (strs (N.take k)) ∧ Fresh w out ∧ Chg (fun _ => False) w wr) (fun _ _ i _ => n - (RowKit.intOf i).toNat)
  case atStart =>
    exact ⟨0, by omega, rfl, Owns.nil _ 1, by simp [Fresh, Value.ownBlock], (Chg.refl _ w).alloc _⟩
  case round =>
    obtain ⟨k, hk, rfl, hob, hfr, hch⟩ := hrel
    obtain ⟨oa, oc, rfl⟩ := hob.form
    by_cases hlt : k < n
    · obtain ⟨x, hx⟩ : ∃ x, l[k]? = some x := ⟨_, List.getElem?_eq_getElem (by rw [← HN.out]; exact hlt)⟩
      obtain ⟨nm, hnm, hx1, hrep⟩ := JV.repP_get w l ns xs k x HL.out hx
      obtain ⟨c6, hc6⟩ : ∃ c6, c6 = (xs.drop (k * 7 + 1)).take 6 := ⟨_, rfl⟩
      rw [← hc6] at hrep
      obtain ⟨h6, hone6⟩ := hrep.len
      obtain ⟨c7, hc7⟩ : ∃ c7, c7 = Value.string ⟨nm.toArray⟩ :: c6 := ⟨_, rfl⟩
      have hc7x : c7 = (xs.drop (k * 7)).take 7 := by
        rw [hc7, hc6]
        have e : (xs.drop (k * 7)).take 7 = (xs.drop (k * 7)).take 1 ++ ((xs.drop (k * 7)).drop 1).take 6 := by rw [← List.take_add]
        rw [e, hx1, List.drop_drop]; rfl
      have h7 : c7.length = 7 := by rw [hc7]; simp [h6]
      have hone : one c7 := by
        rw [hc7]
        intro u hu
        rcases List.mem_cons.1 hu with rfl | hu
        · rfl
        · exact hone6 u hu
      obtain ⟨g, o, rfl⟩ : ∃ g o, va = some ⟨g, o, none⟩ := by
        rcases HV.out.2 with ⟨hv, h0⟩ | ⟨g, o, c, hv, _⟩
        · omega
        · simp only [Value.slice.injEq] at hv; exact ⟨g, o, hv.1⟩
      have hld : (Instr.loadAt 32 (.pointer (some ⟨g, o + k * 7, none⟩))).run Tryd.prog wr = .ok (.agg c7.toArray) wr := by
        refine run_loadAt_agg wr _ _ g (o + k * 7) c7 Tryd.underlying32 rfl (by rw [h7]; exact size_pair) fun j u hj => ?_
        have hkept := HV.out.kept hch (fun _ _ h => h)
        rcases hkept.2 with ⟨hv, h0⟩ | ⟨g', o', c, hv, g1, g2, g3, g4⟩
        · simp at hv
        · simp only [Value.slice.injEq, Option.some.injEq, Addr.mk.injEq, true_and, and_true] at hv
          obtain ⟨⟨rfl, rfl⟩, rfl⟩ := hv
          rw [Nat.add_assoc]
          refine g4 _ u ?_
          have hj7 : j < 7 := by have := (List.getElem?_eq_some_iff.1 hj).1; omega
          rw [hc7x, List.getElem?_take, if_pos hj7, List.getElem?_drop] at hj
          exact hj
      have hst := store_new (P := Tryd.prog) 32 [.string ⟨#[]⟩, .int .i64 0, .bool false, .int .i64 0, .string ⟨#[]⟩, .slice none 0 0, .slice none 0 0] c7 32 (by rw [h7]; exact size_pair) (by rw [h7]; rfl) hone wr
      have hc2 : Chg (fun _ => False) w (wr.alloc (.cells c7.toArray 32)) := hch.alloc _
      have hbnd := thing_bound hnm hx
      rw [← HNN.out] at hbnd
      have hqn := quoteT_ge nm
      have hbq : (quoteT nm).length + x.txt.length + 1 ≤ 999999998 := Nat.le_trans hbnd hlj
      have HQ := Lib.hid (fun W => quote_ok nm W (by omega))
      have HPR : Hid (∀ w3, Chg (fun _ => False) (wr.alloc (.cells c7.toArray 32)).drew w3 → Calls Tryd.prog 10 #[.agg c6.toArray] w3 fun e w' => e = .returned (.string ⟨x.txt.toArray⟩) ∧ Chg (fun _ => False) w3 w') := by
        intro w3 c3
        have c03 : Chg (fun _ => False) w w3 := hc2.drew.trans c3
        exact HI.out x c6 w3 (Nat.le_trans (JV.size_lt l k x hx) hsz) (JV.oks_get l k x HO.out hx) (by omega) (JV.Rep.same c03 x c6 hrep) (HT.out.same c03)
      have eS : (⟨(quoteT nm).toArray⟩ ++ ⟨#[58]⟩ ++ ⟨x.txt.toArray⟩ : ByteArray) = ⟨(quoteT nm ++ 58 :: x.txt).toArray⟩ := by
        rw [show (⟨#[58]⟩ : ByteArray) = ⟨[58].toArray⟩ from rfl, bytes_app, bytes_app]; simp
      have HX : Hid (strs (N.take (k + 1)) = strs (N.take k) ++ [.string (⟨(quoteT nm).toArray⟩ ++ ⟨#[58]⟩ ++ ⟨x.txt.toArray⟩)]) := by
        rw [eS]
        exact strs_snoc N k _ (by rw [HNN.out]; exact namedT_get ns _ k nm x.txt hnm (by rw [JV.txts_get, hx]; rfl))
      have HC7 : Hid ((wr.alloc (.cells c7.toArray 32)).drew.cell? ⟨wr.heap.size, 0, none⟩ = some (.string ⟨nm.toArray⟩) ∧ (∀ (j : Nat) (u : Value), c6[j]? = some u → (wr.alloc (.cells c7.toArray 32)).drew.cell? ⟨wr.heap.size, 1 + j, none⟩ = some u) ∧ c6.length = 6) := by
        have hh : (wr.alloc (.cells c7.toArray 32)).drew.heap[wr.heap.size]? = some (.cells c7.toArray 32 (0, 0)) := heap_alloc_new wr _
        refine ⟨by rw [cell_of_heap hh, hc7]; rfl, fun j u hj => ?_, h6⟩
        rw [cell_of_heap hh, hc7, Nat.add_comm]
        simpa using hj
      have HNT : ¬ (Value.slice oa k oc).ownBlock = some wr.heap.size := fun h => by have := hob.lt _ h; omega
      have hob2 : Owns (wr.alloc (.cells c7.toArray 32)).drew 1 (.slice oa k oc) k (strs (N.take k)) := hob.kept (S := fun _ => False) ((Chg.refl _ wr).alloc _).drew (fun _ _ h => h)
      have HOB := Lib.hid hob2
      clear hx hnm hrep hx1 hc6 h6 hone6 hone hc7x h7 hc7 hbnd hob hob2 eS
      go_wp2_with (first | refine wpList_load rfl 32 _ rfl _ _ rfl hld ?_ | refine wpList_store rfl 32 _ _ rfl _ _ _ rfl rfl hst ?_)
      clear hst hld
      refine wpT.begin (fun q => (Value.slice oa k oc).ownBlock = some q) 12 (by kernel_rfl) rfl ?_
      refine wpT.take 0 rfl (by kernel_rfl) (fun _ _ _ h => h) rfl (fun w' hw' => by go_simp <;> with_reducible rfl) ?_
      simp only [Act.put, List.setIfInBounds_toArray, List.set_cons_zero, List.set_cons_succ]
      refine wpT.take 1 rfl (by kernel_rfl) (fun _ _ _ h => h) rfl (fun w' hw' => by go_simp <;> with_reducible rfl) ?_
      simp only [Act.put, List.setIfInBounds_toArray, List.set_cons_zero, List.set_cons_succ]
      refine wpT.ld 2 rfl (by kernel_rfl) (fun _ _ _ _ h => h) rfl _ _ rfl (by kernel_rfl) ⟨wr.heap.size, 0, none⟩ rfl _ (HC7.out.1) HNT ?_
      simp only [Act.put, List.setIfInBounds_toArray, List.set_cons_zero, List.set_cons_succ]
      refine wpT.take 5 rfl (by kernel_rfl) (fun _ _ _ h => h) rfl (fun w' hw' => by go_simp <;> with_reducible rfl) ?_
      simp only [Act.put, List.setIfInBounds_toArray, List.set_cons_zero, List.set_cons_succ]
      refine wpT.ldR 6 rfl (by kernel_rfl) (fun _ _ _ _ h => h) rfl 26 _ rfl _ Tryd.underlying26 rfl wr.heap.size 1 rfl c6 (by rw [HC7.out.2.2]; exact size_val) HC7.out.2.1 HNT ?_
      simp only [Act.put, List.setIfInBounds_toArray, List.set_cons_zero, List.set_cons_succ]
      refine wpT.call 3 rfl (by kernel_rfl) rfl (fun K hK => ?_)
      go_wp2_with fail
      refine (HQ.out _).mono ?_
      rintro e w3 ⟨rfl, c3⟩
      refine hK _ _ (c3.mono (fun _ _ h => h.elim)) ?_
      clear hK
      try (simp only [Act.put, List.setIfInBounds_toArray, List.set_cons_zero, List.set_cons_succ])
      refine wpT.take (v := .string (⟨(quoteT nm).toArray⟩ ++ ⟨#[58]⟩)) 4 rfl (by kernel_rfl) (fun _ _ _ h => h) rfl (fun w' hw' => by go_simp; omega) ?_
      simp only [Act.put, List.setIfInBounds_toArray, List.set_cons_zero, List.set_cons_succ]
      refine wpT.call 7 rfl (by kernel_rfl) rfl (fun K hK => ?_)
      go_wp2_with fail
      refine (HPR.out w3 c3).mono ?_
      rintro e w4 ⟨rfl, c4⟩
      refine hK _ _ (c4.mono (fun _ _ h => h.elim)) ?_
      clear hK
      try (simp only [Act.put, List.setIfInBounds_toArray, List.set_cons_zero, List.set_cons_succ])
      refine wpT.take (v := .string (⟨(quoteT nm).toArray⟩ ++ ⟨#[58]⟩ ++ ⟨x.txt.toArray⟩)) 8 rfl (by kernel_rfl) (fun _ _ _ h => h) rfl (fun w' hw' => by go_simp; omega) ?_
      simp only [Act.put, List.setIfInBounds_toArray, List.set_cons_zero, List.set_cons_succ]
      refine wpT.call 9 rfl (by kernel_rfl) rfl (fun K hK => ?_)
      go_simp
      refine hK _ _ ((Chg.refl _ _).alloc _) ?_
      clear hK
      try (simp only [Act.put, List.setIfInBounds_toArray, List.set_cons_zero, List.set_cons_succ])
      refine wpT.call 10 rfl (by kernel_rfl) rfl (fun K hK => ?_)
      have hob4 := (HOB.out.kept (c3.trans c4) (fun _ _ h => h)).alloc (.cells #[.string (⟨(quoteT nm).toArray⟩ ++ ⟨#[58]⟩ ++ ⟨x.txt.toArray⟩)] 9)
      have hrd := Reads.one w4 [.string (⟨(quoteT nm).toArray⟩ ++ ⟨#[58]⟩ ++ ⟨x.txt.toArray⟩)] 9
      refine wp_app _ _ 37 rfl 9 (.string ⟨#[]⟩) 1 16 Tryd.underlying37 (by kernel_rfl) rfl (.slice oa k oc) k _ rfl hob4 (.slice (some ⟨w4.heap.size, 0, none⟩) 1 1) 1 [.string (⟨(quoteT nm).toArray⟩ ++ ⟨#[58]⟩ ++ ⟨x.txt.toArray⟩)] rfl hrd (by simp [Value.oneCell']) (by simp only [maxLen]; omega) (by omega) ?_
      intro v5 w5 own5 c5 in5 _
      refine hK _ _ c5 ?_
      clear hK
      try (simp only [Act.put, List.setIfInBounds_toArray, List.set_cons_zero, List.set_cons_succ])
      refine wpT.take 11 rfl (by kernel_rfl) (fun _ _ _ h => h) rfl (fun w' hw' => by go_simp <;> with_reducible rfl) ?_
      simp only [Act.put, List.setIfInBounds_toArray, List.set_cons_zero, List.set_cons_succ]
      refine wpT.done (by kernel_rfl) ?_
      rw [← HX.out] at own5
      have hc4 : Chg (fun _ => False) w (w4.alloc (.cells #[.string (⟨(quoteT nm).toArray⟩ ++ ⟨#[58]⟩ ++ ⟨x.txt.toArray⟩)] 9)) := ((hc2.drew.trans c3).trans c4).alloc _
      have hf5 : Fresh w v5 := fun q hq => by
        have := hc4.size
        rcases in5 q hq with h | h
        · exact hfr q h
        · omega
      go_wp2_with fail
      exact ⟨⟨k + 1, by omega, rfl, own5, hf5, hc4.new c5 (fun q hq => hfr q hq)⟩, by simp only [RowKit.intOf]; omega⟩
    · obtain rfl : k = n := by omega
      have hrd := hob.reads
      rw [List.take_of_length_le (by rw [HNL.out]; exact Nat.le_refl _)] at hrd
      have HJ := Lib.hid (join_c (.slice oa k oc) N wr (by rw [HNL.out]; exact hrd) (by omega))
      have e1 : (⟨#[123]⟩ ++ ⟨(Lib.join N [44]).toArray⟩ ++ ⟨#[125]⟩ : ByteArray) = ⟨([123] ++ Lib.join N [44] ++ [125]).toArray⟩ := by
        rw [show (⟨#[123]⟩ : ByteArray) = ⟨[123].toArray⟩ from rfl, show (⟨#[125]⟩ : ByteArray) = ⟨[125].toArray⟩ from rfl, bytes_app, bytes_app]
      have HE := Lib.hid e1
      clear hrd e1
      go_wp2_with (go_at_call 19; refine HJ.out.mono ?_; rintro e w1 ⟨rfl, hc⟩)
      go_ret
      exact ⟨by first | rfl | (rw [← HE.out]; rfl), hch.trans hc⟩

theorem print_any : ∀ n, PrintsUp n
  | 0 => fun j cs w hs _ _ _ _ => by cases j <;> simp [JV.size] at hs
  | n + 1 => fun j cs w hs hok hl hr ht => by
    have IH := print_any n
    cases j with
    | row l => exact print_row n IH l cs w (by simp only [JV.size] at hs; omega) (by simpa only [JV.ok] using hok) hl hr ht
    | thing ns l => exact print_thing n IH ns l cs w (by simp only [JV.size] at hs; omega) (by simpa only [JV.ok] using hok : _ ∧ _).2 hl hr ht
    | null => exact print_flat _ cs w trivial hok hl hr ht
    | bool b => exact print_flat _ cs w trivial hok hl hr ht
    | num b => exact print_flat _ cs w trivial hok hl hr ht
    | text b => exact print_flat _ cs w trivial hok hl hr ht
/-- json.Print: the value's text. -/
theorem print_c (j : JV) (cs : List Value) (w : World) (hok : j.ok) (hl : j.txt.length ≤ 1000000000) (hr : j.Rep w cs) (ht : Tab w) :
    Calls Tryd.prog 10 #[.agg cs.toArray] w fun e w' => e = .returned (.string ⟨j.txt.toArray⟩) ∧ Chg (fun _ => False) w w' :=
  print_any j.size j cs w (Nat.le_refl _) hok hl hr ht
end Go.Proofs.YtmnnahkaenikkaaDoor
