/- reply.Failed; json.Get; law 31's lives. -/
import Derived.Test.YtmnnahkaenikkaaDoorReply2
namespace Go.Cat
open Go.RowKit
theorem heap_setCells_at (b : Nat) (T : TypeId) : ∀ (vs : List Value) (w : World) (c : List Value) (off : Nat), off + vs.length ≤ c.length → w.heap[b]? = some (.cells c.toArray T (0, 0)) →
    (w.setCells b off vs).heap[b]? = some (.cells (c.take off ++ vs ++ c.drop (off + vs.length)).toArray T (0, 0))
  | [], w, c, off, _, hb => by simpa [World.setCells] using hb
  | v :: r, w, c, off, h, hb => by
    have hl : off < c.length := by simp at h; omega
    have h1 := heap_setCell_same hb off v
    rw [List.setIfInBounds_toArray] at h1
    have h2 := heap_setCells_at b T r (w.setCell ⟨b, off, none⟩ v) (c.set off v) (off + 1) (by simp at h ⊢; omega) h1
    rw [World.setCells]
    refine h2.trans ?_
    congr 3
    rw [List.set_eq_take_append_cons_drop, if_pos hl]
    have e1 : (c.take off).length = off := by simp; omega
    have e2 : (List.take off c ++ v :: List.drop (off + 1) c).take (off + 1) = c.take off ++ [v] := by
      rw [List.take_append, e1, List.take_of_length_le (by omega)]; simp
    have e3 : (List.take off c ++ v :: List.drop (off + 1) c).drop (off + 1 + r.length) = c.drop (off + (v :: r).length) := by
      rw [List.drop_append, e1, List.drop_eq_nil_of_le (by omega), show off + 1 + r.length - off = r.length + 1 by omega]
      simp only [List.nil_append, List.drop_succ_cons, List.drop_drop, List.length_cons]
      congr 1; omega
    rw [e2, e3]; simp
/-- A whole value is stored where one of its size lies: the block holds it then. -/
theorem store_whole {P : Program} (t T : TypeId) (z c : List Value) (b : Nat) (hi : (P.info? t).map (·.size) = some c.length) (hz : z.length = c.length) (h1 : ∀ u ∈ c, u.oneCell' = true) (w : World) (hb : w.heap[b]? = some (.cells z.toArray T (0, 0))) :
    ∃ w', (Instr.storeAt t (.pointer (some ⟨b, 0, none⟩)) (.agg c.toArray)).run P w = .ok () w' ∧ w'.heap[b]? = some (.cells c.toArray T (0, 0)) ∧ Chg (fun k => k = b) w w' := by
  refine ⟨w.setCells b 0 c, ?_, ?_, Chg.setCells w b 0 c⟩
  · refine run_storeAt_agg w t b 0 c hi (fun j hj => ?_) (fun j _ => frozen_of_heap hb _) h1
    rw [cell_of_heap hb]; simp [hz, hj]
  · have := heap_setCells_at b T c w z 0 (by omega) hb
    rwa [List.take_zero, List.nil_append, Nat.zero_add, List.drop_of_length_le (by omega), List.append_nil] at this
end Go.Cat
namespace Go.Proofs.YtmnnahkaenikkaaDoor
open Go.RowKit Go.Cat
theorem num_e (n : Int) (w : World) : Calls Tryd.prog 8 #[.int .i64 n] w fun e w' => e = .returned (.agg #[.int .i64 2, .bool false, .int .i64 n, .string ⟨#[]⟩, .slice none 0 0, .slice none 0 0]) ∧ Chg (fun _ => False) w w' := num_c n w
theorem rtext_e (s : List UInt8) (w : World) : Calls Tryd.prog 9 #[.string ⟨s.toArray⟩] w fun e w' => e = .returned (.agg #[.int .i64 3, .bool false, .int .i64 0, .string ⟨s.toArray⟩, .slice none 0 0, .slice none 0 0]) ∧ Chg (fun _ => False) w w' := rtext_c s w
theorem row_e (a : Option Addr) (n c : Nat) (w : World) : Calls Tryd.prog 7 #[.slice a n c] w fun e w' => e = .returned (.agg #[.int .i64 4, .bool false, .int .i64 0, .string ⟨#[]⟩, .slice a n c, .slice none 0 0]) ∧ Chg (fun _ => False) w w' := row_c a n c w
theorem thing_e (a : Option Addr) (n c : Nat) (w : World) : Calls Tryd.prog 6 #[.slice a n c] w fun e w' => e = .returned (.agg #[.int .i64 5, .bool false, .int .i64 0, .string ⟨#[]⟩, .slice none 0 0, .slice a n c]) ∧ Chg (fun _ => False) w w' := thing_c a n c w
/-- One name and a text. -/
theorem rep_named (w : World) (n s : List UInt8) (v : Value) (hv : Reads w 7 v 1 (.string ⟨n.toArray⟩ :: textC s)) (h1 : v.oneCell' = true) : (JV.thing [n] [.text s]).Rep w (thingC v) := by
  simp only [JV.Rep]
  refine ⟨by intro u hu; simp [thingC] at hu; rcases hu with rfl | rfl | rfl | rfl | rfl | rfl <;> first | rfl | exact h1, _, _, _, _, _, _, rfl, hv, ?_⟩
  simp only [JV.RepP, JV.Rep]
  refine ⟨n, [], rfl, rfl, ⟨?_, ⟨_, _, _, _, rfl⟩⟩, rfl, rfl⟩
  intro u hu; simp [textC] at hu; rcases hu with rfl | rfl | rfl | rfl | rfl | rfl <;> rfl
set_option maxRecDepth 100000 in
set_option maxHeartbeats 2000000 in
theorem failed_c (e : Int) (w : World) : Calls Tryd.prog 12 #[.int .i64 e] w fun x w' => ∃ v, x = .returned (.agg (Value.int .i64 (codeOf e) :: thingC v).toArray) ∧ Reads w' 7 v 1 (.string ⟨#[101, 114, 114, 111, 114]⟩ :: textC (wordOf e)) ∧ Chg (fun _ => False) w w' := by
  have HB := Lib.hid (heap_alloc_new w (.cells #[.int .i64 0, .int .i64 0, .bool false, .int .i64 0, .string ⟨#[]⟩, .slice none 0 0, .slice none 0 0] 40))
  have C0 := Lib.hid ((Chg.refl (fun _ => False) w).alloc (.cells #[.int .i64 0, .int .i64 0, .bool false, .int .i64 0, .string ⟨#[]⟩, .slice none 0 0, .slice none 0 0] 40))
  go_enter Tryd.func12, Tryd.ntmps12
  go_wp2_with (first | (go_at_call 14; refine (code_c e _).mono ?_; rintro x w1 ⟨rfl, rfl⟩) | (go_at_call 15; refine (word_c e _).mono ?_; rintro x w1 ⟨rfl, c1⟩; refine Hid.out ?_))
  refine Lib.hid ?_
  go_wp2_with (first | (go_at_call 9; refine (rtext_e (wordOf e) _).mono ?_; rintro x w2 ⟨rfl, c2⟩; refine Hid.out ?_))
  refine Lib.hid ?_
  have HRD := Lib.hid (Reads.one w2 (.string ⟨#[101, 114, 114, 111, 114]⟩ :: textC (wordOf e)) 32)
  have hA := Lib.hid (thing_e (some ⟨w2.heap.size, 0, none⟩) 1 1 (w2.alloc (.cells #[.string ⟨#[101, 114, 114, 111, 114]⟩, .int .i64 3, .bool false, .int .i64 0, .string ⟨(wordOf e).toArray⟩, .slice none 0 0, .slice none 0 0] 32)))
  go_wp2_with (first | (go_at_call 6; refine hA.out.mono ?_; rintro x w3 ⟨rfl, c3⟩; refine Hid.out ?_))
  refine Lib.hid ?_
  have c13 : Chg (fun _ => False) (w.alloc (.cells #[.int .i64 0, .int .i64 0, .bool false, .int .i64 0, .string ⟨#[]⟩, .slice none 0 0, .slice none 0 0] 40)) w3 := (c1.trans (c2.alloc _)).trans c3
  obtain ⟨w4, hst, hb4, c4⟩ := store_whole (P := Tryd.prog) 40 40 [.int .i64 0, .int .i64 0, .bool false, .int .i64 0, .string ⟨#[]⟩, .slice none 0 0, .slice none 0 0] [.int .i64 (codeOf e), .int .i64 5, .bool false, .int .i64 0, .string ⟨#[]⟩, .slice none 0 0, .slice (some ⟨w2.heap.size, 0, none⟩) 1 1] w.heap.size (by kernel_rfl) rfl (by intro u hu; simp at hu; rcases hu with rfl | rfl | rfl | rfl | rfl | rfl | rfl <;> rfl) w3 (c13.heap HB.out (fun h => h))
  have HB4 := Lib.hid hb4
  clear hb4
  go_wp2_with (refine wpList_store rfl 40 _ _ rfl _ _ _ rfl rfl hst ?_)
  refine bodyPost_ret (v := .agg #[.int .i64 (codeOf e), .int .i64 5, .bool false, .int .i64 0, .string ⟨#[]⟩, .slice none 0 0, .slice (some ⟨w2.heap.size, 0, none⟩) 1 1]) (results_cell_row (fn := Tryd.f12) (p := 2) (ty := 40) rfl _ _ w.heap.size _ _ (0, 0) _ rfl HB4.out Tryd.underlying40 rfl (by kernel_rfl)) rfl ?_
  have hs2 : w.heap.size < w2.heap.size := by
    have h1 := c1.size
    have h2 := c2.size
    simp only [World.alloc, Array.size_push] at h1
    omega
  refine ⟨_, rfl, (HRD.out.kept c3 (fun _ _ h => h)).kept c4 (fun k hk h => ?_), (C0.out.trans c13).trans' c4 (fun i hi h => by omega)⟩
  simp only [Value.ownBlock, Option.some.injEq] at hk
  omega

set_option maxRecDepth 100000 in
set_option maxHeartbeats 2000000 in
theorem lives_c (w : World) (ht : Tab w) : Calls Tryd.prog 5 #[] w fun x w' => x = .returned (.bool true) ∧ Chg (fun _ => False) w w' := by
  have HF := Lib.hid (failed_c 10 w)
  go_enter Tryd.func5, Tryd.ntmps5
  go_wp2_with (go_at_call 12; refine HF.out.mono ?_; rintro x w1 ⟨v, rfl, hv, c1⟩; refine Hid.out ?_)
  refine Lib.hid ?_
  obtain ⟨va, vc, rfl⟩ := hv.form
  obtain ⟨c7, hc7⟩ : ∃ c7 : List Value, c7 = [.int .i64 429, .int .i64 5, .bool false, .int .i64 0, .string ⟨#[]⟩, .slice none 0 0, .slice va 1 vc] := ⟨_, rfl⟩
  have h7 : (Value.int .i64 (codeOf 10) :: thingC (.slice va 1 vc)).toArray = c7.toArray := by rw [hc7]; rfl
  rw [h7]
  have hst := store_new (P := Tryd.prog) 40 [.int .i64 0, .int .i64 0, .bool false, .int .i64 0, .string ⟨#[]⟩, .slice none 0 0, .slice none 0 0] c7 40 (by rw [hc7]; kernel_rfl) (by rw [hc7]; rfl) (by rw [hc7]; intro u hu; simp at hu; rcases hu with rfl | rfl | rfl | rfl | rfl | rfl | rfl <;> rfl) w1
  obtain ⟨w2, hw2⟩ : ∃ w2, w2 = w1.alloc (.cells c7.toArray 40) := ⟨_, rfl⟩
  have hh : w2.heap[w1.heap.size]? = some (.cells c7.toArray 40 (0, 0)) := by rw [hw2]; exact heap_alloc_new w1 _
  have c2 : Chg (fun _ => False) w1 w2 := by rw [hw2]; exact (Chg.refl _ w1).alloc _
  rw [← hw2] at hst
  have q0 : w2.cell? ⟨w1.heap.size, 0, none⟩ = some (.int .i64 429) := by rw [cell_of_heap hh, hc7]; rfl
  have hld : (Instr.loadAt 26 (.pointer (some ⟨w1.heap.size, 1, none⟩))).run Tryd.prog w2 = .ok (.agg (thingC (.slice va 1 vc)).toArray) w2 :=
    run_loadAt_agg w2 _ _ w1.heap.size 1 (thingC (.slice va 1 vc)) Tryd.underlying26 rfl size_val fun j u hj => by
      rw [cell_of_heap hh, hc7, Nat.add_comm]
      simpa [thingC] using hj
  have hpr := print_c (.thing [[101, 114, 114, 111, 114]] [.text (wordOf 10)]) (thingC (.slice va 1 vc)) w2 (by simp [JV.ok, JV.oks]) (by simp [JV.txt, JV.txts, namedT, Lib.join, quoteT, wordOf, words31, quoteB]) (rep_named w2 [101, 114, 114, 111, 114] (wordOf 10) _ (hv.kept c2 (fun _ _ h => h)) rfl) (ht.same (c1.trans c2))
  have htx : (JV.thing [[101, 114, 114, 111, 114]] [.text (wordOf 10)]).txt = [123, 34, 101, 114, 114, 111, 114, 34, 58, 34, 113, 117, 111, 116, 97, 34, 125] := by
    simp [JV.txt, JV.txts, namedT, Lib.join, quoteT, wordOf, words31, quoteB]
  rw [htx] at hpr
  have HPR := Lib.hid hpr
  clear hpr htx hh hw2 hc7 h7
  go_wp2_with (first | refine wpList_store rfl 40 _ _ rfl _ _ _ rfl rfl hst ?_ | refine wpList_loadG 26 _ rfl rfl _ _ rfl hld ?_ | (go_at_call 10; refine HPR.out.mono ?_; rintro e w3 ⟨rfl, c3⟩))
  go_ret
  exact ⟨rfl, (c1.trans c2).trans c3⟩
end Go.Proofs.YtmnnahkaenikkaaDoor
