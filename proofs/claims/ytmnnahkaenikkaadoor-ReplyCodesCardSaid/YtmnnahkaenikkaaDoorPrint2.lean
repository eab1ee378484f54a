/- json.Print of a row. -/
import Derived.Test.YtmnnahkaenikkaaDoorPrint
namespace Go.Proofs.YtmnnahkaenikkaaDoor
open Go.RowKit Go.Cat

set_option maxRecDepth 100000 in
set_option maxHeartbeats 2000000 in
theorem print_row (m : Nat) (IH : PrintsUp m) (l : List JV) (cs : List Value) (w : World) (hsz : JV.sizes l ≤ m) (hok : JV.oks l) (hl : (JV.row l).txt.length ≤ 1000000000) (hr : (JV.row l).Rep w cs) (ht : Tab w) :
    Calls Tryd.prog 10 #[.agg cs.toArray] w fun e w' => e = .returned (.string ⟨(JV.row l).txt.toArray⟩) ∧ Chg (fun _ => False) w w' := by
  simp only [JV.Rep] at hr
  obtain ⟨h1, a1, a2, a3, v, a5, xs, rfl, hv, hL⟩ := hr
  clear h1
  have hlj : (Lib.join (JV.txts l) [44]).length ≤ 999999998 := by
    simp only [JV.txt, List.length_cons, List.length_append, List.length_nil] at hl; omega
  have hcnt := join_count (JV.txts l)
  rw [JV.txts_len] at hcnt
  have htxt : (JV.row l).txt = [91] ++ Lib.join (JV.txts l) [44] ++ [93] := by simp [JV.txt]
  rw [htxt]
  clear hl htxt
  obtain ⟨va, vc, rfl⟩ := hv.form
  obtain ⟨n, hn⟩ : ∃ n, n = l.length := ⟨_, rfl⟩
  rw [← hn] at hv hcnt ⊢
  have HN := Lib.hid hn
  have HV := Lib.hid hv
  have HL := Lib.hid hL
  have HT := Lib.hid ht
  have HO := Lib.hid hok
  have HI := Lib.hid IH
  clear hn hv hL ht hok IH
  go_enter Tryd.func10, Tryd.ntmps10
  go_wp2_with fail
  go_loopw [3, 5, 31] (fun out _ i wr => ∃ k : Nat, k ≤ n ∧ i = .int .i64 k ∧ Owns wr 1 out k (strs ((JV.txts l).take k)) ∧ Fresh w out ∧ Chg (fun _ => False) w wr) (fun _ _ i _ => n - (RowKit.intOf i).toNat)
  case atStart =>
    exact ⟨0, by omega, rfl, Owns.nil _ 1, by simp [Fresh, Value.ownBlock], (Chg.refl _ w).alloc _⟩
  case round =>
    obtain ⟨k, hk, rfl, hob, hfr, hch⟩ := hrel
    obtain ⟨oa, oc, rfl⟩ := hob.form
    by_cases hlt : k < n
    · obtain ⟨x, hx⟩ : ∃ x, l[k]? = some x := ⟨_, List.getElem?_eq_getElem (by rw [← HN.out]; exact hlt)⟩
      obtain ⟨c6, hc6⟩ : ∃ c6, c6 = (xs.drop (k * 6)).take 6 := ⟨_, rfl⟩
      have hrep : x.Rep w c6 := by rw [hc6]; exact JV.repL_get w l xs k x HL.out hx
      obtain ⟨h6, hone⟩ := hrep.len
      obtain ⟨g, o, rfl⟩ : ∃ g o, va = some ⟨g, o, none⟩ := by
        rcases HV.out.2 with ⟨hv, h0⟩ | ⟨g, o, c, hv, _⟩
        · omega
        · simp only [Value.slice.injEq] at hv; exact ⟨g, o, hv.1⟩
      have hld : (Instr.loadAt 26 (.pointer (some ⟨g, o + k * 6, none⟩))).run Tryd.prog wr = .ok (.agg c6.toArray) wr := by
        refine run_loadAt_agg wr _ _ g (o + k * 6) c6 Tryd.underlying26 rfl (by rw [h6]; exact size_val) fun j u hj => ?_
        have hkept := HV.out.kept hch (fun _ _ h => h)
        rcases hkept.2 with ⟨hv, h0⟩ | ⟨g', o', c, hv, g1, g2, g3, g4⟩
        · simp at hv
        · simp only [Value.slice.injEq, Option.some.injEq, Addr.mk.injEq, true_and, and_true] at hv
          obtain ⟨⟨rfl, rfl⟩, rfl⟩ := hv
          rw [Nat.add_assoc]
          refine g4 _ u ?_
          have hj6 : j < 6 := by have := (List.getElem?_eq_some_iff.1 hj).1; omega
          rw [hc6, List.getElem?_take, if_pos hj6, List.getElem?_drop] at hj
          exact hj
      have hst := store_new (P := Tryd.prog) 26 [.int .i64 0, .bool false, .int .i64 0, .string ⟨#[]⟩, .slice none 0 0, .slice none 0 0] c6 26 (by rw [h6]; exact size_val) (by rw [h6]; rfl) hone wr
      have hl2 := load_new (P := Tryd.prog) 26 _ c6 26 Tryd.underlying26 rfl (by rw [h6]; exact size_val) wr
      have hc2 : Chg (fun _ => False) w (wr.alloc (.cells c6.toArray 26)) := hch.alloc _
      have hpr := HI.out x c6 (wr.alloc (.cells c6.toArray 26)) (Nat.le_trans (JV.size_lt l k x hx) hsz) (JV.oks_get l k x HO.out hx) (Nat.le_trans (row_bound hx) (by omega)) (JV.Rep.same hc2 x c6 hrep) (HT.out.same hc2)
      have HX := Lib.hid (strs_snoc (JV.txts l) k x.txt (by rw [JV.txts_get, hx]; rfl))
      have HPR := Lib.hid hpr
      clear hpr hx hrep hc6 h6 hone
      have hob2 := hob.alloc (.cells c6.toArray 26)
      go_wp2_with (first | refine wpList_load rfl 26 _ rfl _ _ rfl hld ?_ | refine wpList_store rfl 26 _ _ rfl _ _ _ rfl rfl hst ?_ | refine wpList_load rfl 26 _ rfl _ _ rfl hl2 ?_ | (go_at_call 10; refine HPR.out.mono ?_; rintro e w3 ⟨rfl, hc3⟩; refine Hid.out ?_))
      refine Lib.hid ?_
      have hob3 := hob2.kept hc3 (fun _ _ h => h)
      have hch3 := hc2.trans hc3
      have hsz3 := hch3.size
      clear hob2 hst hld hl2
      go_wp2_with (at_builtin; go_loud (refine wpList_app_one rfl _ _ 37 rfl 9 (.string ⟨#[]⟩) 1 16 Tryd.underlying37 (by kernel_rfl) rfl (.slice oa k oc) k (strs ((JV.txts l).take k)) [.string ⟨x.txt.toArray⟩] _ rfl rfl hob3 rfl (by simp [Value.oneCell']) (by simp only [maxLen]; omega) (by omega) ?_; intro v' w4 own4 c4 in4 nn4))
      rw [← HX.out] at own4
      have hf4 : Fresh w v' := fun q hq => by
        rcases in4 q hq with h | h
        · exact hfr q h
        · omega
      exact ⟨⟨k + 1, by omega, rfl, own4, hf4, hch3.new c4 (fun q hq => hfr q hq)⟩, by simp only [RowKit.intOf]; omega⟩
    · obtain rfl : k = n := by omega
      have hrd := hob.reads
      have hcn : k = (JV.txts l).length := by rw [JV.txts_len]; exact HN.out
      rw [List.take_of_length_le (by omega)] at hrd
      have HJ := Lib.hid (join_c (.slice oa k oc) (JV.txts l) wr (by rw [← hcn]; exact hrd) (by omega))
      have e1 : (⟨#[91]⟩ ++ ⟨(Lib.join (JV.txts l) [44]).toArray⟩ ++ ⟨#[93]⟩ : ByteArray) = ⟨([91] ++ Lib.join (JV.txts l) [44] ++ [93]).toArray⟩ := by
        rw [show (⟨#[91]⟩ : ByteArray) = ⟨[91].toArray⟩ from rfl, show (⟨#[93]⟩ : ByteArray) = ⟨[93].toArray⟩ from rfl, bytes_app, bytes_app]
      have HE := Lib.hid e1
      clear hrd e1 hcn
      go_wp2_with (go_at_call 19; refine HJ.out.mono ?_; rintro e w1 ⟨rfl, hc⟩)
      go_ret
      exact ⟨by first | rfl | (rw [← HE.out]; rfl) | trace_state, hch.trans hc⟩
end Go.Proofs.YtmnnahkaenikkaaDoor
