/- json.Same of two values of one tree; the walk of ReplyValues. -/
import Derived.Test.YtmnnahkaenikkaaDoorReply3
import Derived.Lib.ItoaLen
namespace Go.Proofs.YtmnnahkaenikkaaDoor
open Go.RowKit Go.Cat
theorem Reads.many (w : World) (cs : List Value) (T : TypeId) (n size : Nat) (h : cs.length = n * size) (hn : n ≤ maxLen) : Reads (w.alloc (.cells cs.toArray T)) size (.slice (some ⟨w.heap.size, 0, none⟩) n n) n cs :=
  ⟨h, .inr ⟨_, 0, n, rfl, by simp, hn, by simp, fun j u hj => by
    rw [Nat.zero_add, World.cell?_alloc_new]; simpa using hj⟩⟩
set_option maxRecDepth 100000 in
set_option maxHeartbeats 2000000 in
theorem same_c (j : JV) (cs ds : List Value) (w : World) (hok : j.ok) (hl : j.txt.length ≤ 1000000000) (hc : j.Rep w cs) (hd : j.Rep w ds) (ht : Tab w) :
    Calls Tryd.prog 11 #[.agg cs.toArray, .agg ds.toArray] w fun e w' => e = .returned (.bool true) ∧ Chg (fun _ => False) w w' := by
  obtain ⟨w1, hw1⟩ : ∃ w1, w1 = w.alloc (.cells cs.toArray 26) := ⟨_, rfl⟩
  obtain ⟨w2, hw2⟩ : ∃ w2, w2 = w1.alloc (.cells ds.toArray 26) := ⟨_, rfl⟩
  have hs1 : w1.heap.size = w.heap.size + 1 := by rw [hw1]; show (w.heap.push _).size = _; simp
  have c1 : Chg (fun _ => False) w w1 := by rw [hw1]; exact (Chg.refl _ w).alloc _
  have c2 : Chg (fun _ => False) w1 w2 := by rw [hw2]; exact (Chg.refl _ w1).alloc _
  have b1 : w1.heap[w.heap.size]? = some (.cells cs.toArray 26 (0, 0)) := by rw [hw1]; exact heap_alloc_new w _
  have b2 : w2.heap[w.heap.size + 1]? = some (.cells ds.toArray 26 (0, 0)) := by rw [hw2, ← hs1]; exact heap_alloc_new w1 _
  have HB : Hid (w2.drew.heap[w.heap.size]? = some (.cells cs.toArray 26 (0, 0)) ∧ w2.drew.heap[w.heap.size + 1]? = some (.cells ds.toArray 26 (0, 0))) := ⟨c2.heap b1 (fun h => h), b2⟩
  have h6 : Hid (cs.length = 6 ∧ ds.length = 6) := ⟨hc.len.1, hd.len.1⟩
  have HP1 : Hid (∀ w', Chg (fun _ => False) w2.drew w' → Calls Tryd.prog 10 #[.agg cs.toArray] w' fun e w'' => e = .returned (.string ⟨j.txt.toArray⟩) ∧ Chg (fun _ => False) w' w'') := fun w' c => by
    have c' := ((c1.trans c2).drew).trans c
    exact print_c j cs w' hok hl (JV.Rep.same c' j cs hc) (ht.same c')
  have HP2 : Hid (∀ w', Chg (fun _ => False) w2.drew w' → Calls Tryd.prog 10 #[.agg ds.toArray] w' fun e w'' => e = .returned (.string ⟨j.txt.toArray⟩) ∧ Chg (fun _ => False) w' w'') := fun w' c => by
    have c' := ((c1.trans c2).drew).trans c
    exact print_c j ds w' hok hl (JV.Rep.same c' j ds hd) (ht.same c')
  have C02 := Lib.hid (c1.trans c2)
  clear b1 b2 c1 c2 hc hd hok hl
  go_enter Tryd.func11, Tryd.ntmps11
  go_wp2_with fail
  rw [← hw1, ← hw2]
  clear hw1 hw2 hs1
  refine wpT.begin (fun _ => False) 6 (by kernel_rfl) rfl ?_
  refine wpT.ldA 0 rfl (by kernel_rfl) (fun _ _ _ _ h => h) rfl 26 _ rfl _ Tryd.underlying26 rfl w.heap.size rfl cs (by rw [h6.out.1]; exact size_val) 26 (0, 0) HB.out.1 (fun h => h) ?_
  simp only [Act.put, List.setIfInBounds_toArray, List.set_cons_zero, List.set_cons_succ]
  refine wpT.ldA 2 rfl (by kernel_rfl) (fun _ _ _ _ h => h) rfl 26 _ rfl _ Tryd.underlying26 rfl (w.heap.size + 1) rfl ds (by rw [h6.out.2]; exact size_val) 26 (0, 0) HB.out.2 (fun h => h) ?_
  simp only [Act.put, List.setIfInBounds_toArray, List.set_cons_zero, List.set_cons_succ]
  refine wpT.call 1 rfl (by kernel_rfl) rfl (fun K hK => ?_)
  go_wp2_with fail
  refine (HP1.out w2.drew (Chg.refl _ _)).mono ?_
  rintro e w3 ⟨rfl, c3⟩
  refine hK _ _ c3 ?_
  clear hK
  try (simp only [Act.put, List.setIfInBounds_toArray, List.set_cons_zero, List.set_cons_succ])
  refine wpT.call 3 rfl (by kernel_rfl) rfl (fun K hK => ?_)
  go_wp2_with fail
  refine (HP2.out w3 c3).mono ?_
  rintro e w4 ⟨rfl, c4⟩
  refine hK _ _ c4 ?_
  clear hK
  try (simp only [Act.put, List.setIfInBounds_toArray, List.set_cons_zero, List.set_cons_succ])
  refine wpT.take 4 rfl (by kernel_rfl) (fun _ _ _ h => h) rfl (fun w' hw' => by go_simp <;> with_reducible rfl) ?_
  simp only [Act.put, List.setIfInBounds_toArray, List.set_cons_zero, List.set_cons_succ]
  refine wpT.take 5 rfl (by kernel_rfl) (fun _ _ _ h => h) rfl (fun w' hw' => by go_simp <;> with_reducible rfl) ?_
  simp only [Act.put, List.setIfInBounds_toArray, List.set_cons_zero, List.set_cons_succ]
  refine wpT.done (by kernel_rfl) ?_
  go_wp2_with fail
  go_ret
  exact ⟨by simp, (C02.out.drew.trans c3).trans c4⟩

def treeV (n : Int) (s : List UInt8) : JV := .thing [[97], [98]] [.row [.num n, .text s], .row []]
theorem treeV_len (n : Int) (s : List UInt8) (hs : s.length ≤ 100) (hn : -9223372036854775808 ≤ n ∧ n ≤ 9223372036854775807) : (treeV n s).txt.length ≤ 1000000000 := by
  have h1 : (Lib.itoa n).length ≤ 21 := Lib.itoa_length_le n hn.1 hn.2
  have h2 : (quoteT s).length ≤ 602 := by
    have := flat_le s
    simp only [quoteT, List.length_cons, List.length_append, List.length_nil]; omega
  simp only [treeV, JV.txt, JV.txts, namedT, Lib.join_cons, Lib.joinTail, Lib.join_nil, List.map_cons, List.map_nil, List.flatten_cons, List.flatten_nil, List.length_cons, List.length_append, List.length_nil]
  have h3 : (quoteT [97]).length ≤ 8 := by decide
  have h4 : (quoteT [98]).length ≤ 8 := by decide
  omega
theorem one_num (w : World) (n : Int) (s : List UInt8) : (JV.num n).Rep w (numC n) ∧ (JV.text s).Rep w (textC s) := by
  simp only [JV.Rep]
  refine ⟨⟨?_, _, _, _, _, rfl⟩, ⟨?_, _, _, _, _, rfl⟩⟩
  · intro u hu; simp [numC] at hu; rcases hu with rfl | rfl | rfl | rfl | rfl | rfl <;> rfl
  · intro u hu; simp [textC] at hu; rcases hu with rfl | rfl | rfl | rfl | rfl | rfl <;> rfl
theorem rep_tree (w : World) (n : Int) (s : List UInt8) (v1 v2 v : Value) (h1 : Reads w 6 v1 2 (numC n ++ textC s)) (h2 : Reads w 6 v2 0 []) (h3 : Reads w 7 v 2 ((.string ⟨#[97]⟩ :: rowC v1) ++ (.string ⟨#[98]⟩ :: rowC v2))) (o1 : v1.oneCell' = true) (o2 : v2.oneCell' = true) (o3 : v.oneCell' = true) :
    (treeV n s).Rep w (thingC v) := by
  simp only [treeV, JV.Rep]
  refine ⟨?_, _, _, _, _, _, _, rfl, h3, ?_⟩
  · intro u hu; simp [thingC] at hu; rcases hu with rfl | rfl | rfl | rfl | rfl | rfl <;> first | rfl | exact o3
  simp only [JV.RepP]
  refine ⟨_, _, rfl, rfl, ?_, _, _, rfl, rfl, ?_, rfl, rfl⟩
  · simp only [JV.Rep]
    refine ⟨?_, _, _, _, _, _, _, rfl, h1, ?_⟩
    · intro u hu; simp [rowC] at hu; rcases hu with rfl | rfl | rfl | rfl | rfl | rfl <;> first | rfl | exact o1
    · simp only [JV.RepL]
      exact ⟨(one_num w n s).1, (one_num w n s).2, rfl⟩
  · simp only [JV.Rep]
    refine ⟨?_, _, _, _, _, _, _, rfl, h2, ?_⟩
    · intro u hu; simp [rowC] at hu; rcases hu with rfl | rfl | rfl | rfl | rfl | rfl <;> first | rfl | exact o2
    · simp only [JV.RepL]

set_option maxRecDepth 100000 in
set_option maxHeartbeats 4000000 in
theorem values31 (n : Int) (s : List UInt8) (w : World) (hn : -9223372036854775808 ≤ n ∧ n ≤ 9223372036854775807) (ht : Tab w) :
    Calls Tryd.prog 3 #[.int .i64 n, .string ⟨s.toArray⟩] w fun e w' => e = .returned (.bool true) ∧ Chg (fun _ => False) w w' := by
  have HL := Lib.hid (lives_c w ht)
  by_cases hs : s.length ≤ 100
  · have hsI : ¬ (100 : Int) < s.length := by omega
    have HN := Lib.hid hn
    have HT := Lib.hid ht
    have HS := Lib.hid hs
    clear hn ht hs
    go_enter Tryd.func3, Tryd.ntmps3
    go_wp2_with (first | (go_at_call 5; refine HL.out.mono ?_; rintro e w1 ⟨rfl, c1⟩) | (go_at_call 8; refine (num_e n _).mono ?_; rintro x w2 ⟨rfl, c2⟩; refine Hid.out ?_))
    refine Lib.hid ?_
    go_wp2_with (go_at_call 9; refine (rtext_e s _).mono ?_; rintro x w3 ⟨rfl, c3⟩; refine Hid.out ?_)
    refine Lib.hid ?_
    obtain ⟨A1, hA1⟩ : ∃ A1, A1 = w3.alloc (.cells #[.int .i64 2, .bool false, .int .i64 n, .string ⟨#[]⟩, .slice none 0 0, .slice none 0 0, .int .i64 3, .bool false, .int .i64 0, .string ⟨s.toArray⟩, .slice none 0 0, .slice none 0 0] 26) := ⟨_, rfl⟩
    have R1 := Lib.hid (Reads.many w3 (numC n ++ textC s) 26 2 6 rfl (by simp [maxLen]))
    rw [show (numC n ++ textC s).toArray = #[.int .i64 2, .bool false, .int .i64 n, .string ⟨#[]⟩, .slice none 0 0, .slice none 0 0, .int .i64 3, .bool false, .int .i64 0, .string ⟨s.toArray⟩, .slice none 0 0, .slice none 0 0] from rfl, ← hA1] at R1
    have cA1 : Chg (fun _ => False) w3 A1 := by rw [hA1]; exact (Chg.refl _ w3).alloc _
    have hr1 := row_e (some ⟨w3.heap.size, 0, none⟩) 2 2 A1
    rw [hA1] at hr1
    have HR1 := Lib.hid hr1
    clear hr1
    go_wp2_with (go_at_call 7; refine HR1.out.mono ?_; rintro x w4 ⟨rfl, c4⟩; refine Hid.out ?_)
    rw [← hA1] at c4
    clear hA1 HR1
    refine Lib.hid ?_
    go_wp2_with (go_at_call 7; refine (row_e none 0 0 _).mono ?_; rintro x w5 ⟨rfl, c5⟩; refine Hid.out ?_)
    refine Lib.hid ?_
    obtain ⟨A2, hA2⟩ : ∃ A2, A2 = w5.alloc (.cells #[.string ⟨#[97]⟩, .int .i64 4, .bool false, .int .i64 0, .string ⟨#[]⟩, .slice (some ⟨w3.heap.size, 0, none⟩) 2 2, .slice none 0 0, .string ⟨#[98]⟩, .int .i64 4, .bool false, .int .i64 0, .string ⟨#[]⟩, .slice none 0 0, .slice none 0 0] 32) := ⟨_, rfl⟩
    have R2 := Lib.hid (Reads.many w5 ((.string ⟨#[97]⟩ :: rowC (.slice (some ⟨w3.heap.size, 0, none⟩) 2 2)) ++ (.string ⟨#[98]⟩ :: rowC (.slice none 0 0))) 32 2 7 rfl (by simp [maxLen]))
    rw [show ((.string ⟨#[97]⟩ :: rowC (.slice (some ⟨w3.heap.size, 0, none⟩) 2 2)) ++ (.string ⟨#[98]⟩ :: rowC (.slice none 0 0)) : List Value).toArray = #[.string ⟨#[97]⟩, .int .i64 4, .bool false, .int .i64 0, .string ⟨#[]⟩, .slice (some ⟨w3.heap.size, 0, none⟩) 2 2, .slice none 0 0, .string ⟨#[98]⟩, .int .i64 4, .bool false, .int .i64 0, .string ⟨#[]⟩, .slice none 0 0, .slice none 0 0] from rfl, ← hA2] at R2
    have cA2 : Chg (fun _ => False) w5 A2 := by rw [hA2]; exact (Chg.refl _ w5).alloc _
    have hr2 := thing_e (some ⟨w5.heap.size, 0, none⟩) 2 2 A2
    rw [hA2] at hr2
    have HR2 := Lib.hid hr2
    clear hr2
    go_wp2_with (go_at_call 6; refine HR2.out.mono ?_; rintro x w6 ⟨rfl, c6⟩; refine Hid.out ?_)
    rw [← hA2] at c6
    clear hA2 HR2
    refine Lib.hid ?_
    obtain ⟨cs, hcs⟩ : ∃ cs, cs = thingC (.slice (some ⟨w5.heap.size, 0, none⟩) 2 2) := ⟨_, rfl⟩
    have hst := store_new (P := Tryd.prog) 26 [.int .i64 0, .bool false, .int .i64 0, .string ⟨#[]⟩, .slice none 0 0, .slice none 0 0] cs 26 (by rw [hcs]; exact size_val) (by rw [hcs]; rfl) (by rw [hcs]; intro u hu; simp [thingC] at hu; rcases hu with rfl | rfl | rfl | rfl | rfl | rfl <;> rfl) w6
    obtain ⟨w7, hw7⟩ : ∃ w7, w7 = w6.alloc (.cells cs.toArray 26) := ⟨_, rfl⟩
    rw [← hw7] at hst
    have c7 : Chg (fun _ => False) w6 w7 := by rw [hw7]; exact (Chg.refl _ w6).alloc _
    have b7 : Hid (w7.heap[w6.heap.size]? = some (.cells cs.toArray 26 (0, 0))) := by rw [hw7]; exact heap_alloc_new w6 _
    have HCS := Lib.hid hcs
    rw [show cs.toArray = #[.int .i64 5, .bool false, .int .i64 0, .string ⟨#[]⟩, .slice none 0 0, .slice (some ⟨w5.heap.size, 0, none⟩) 2 2] by rw [hcs]; rfl] at hst
    clear hw7 hcs
    obtain ⟨B1, hB1⟩ : ∃ B1, B1 = w7.alloc (.cells #[.int .i64 2, .bool false, .int .i64 n, .string ⟨#[]⟩, .slice none 0 0, .slice none 0 0, .int .i64 3, .bool false, .int .i64 0, .string ⟨s.toArray⟩, .slice none 0 0, .slice none 0 0] 26) := ⟨_, rfl⟩
    have sB1 : B1.heap.size = w7.heap.size + 1 := by rw [hB1]; show (w7.heap.push _).size = _; simp
    have R3 := Lib.hid (Reads.many w7 (numC n ++ textC s) 26 2 6 rfl (by simp [maxLen]))
    rw [show (numC n ++ textC s).toArray = #[.int .i64 2, .bool false, .int .i64 n, .string ⟨#[]⟩, .slice none 0 0, .slice none 0 0, .int .i64 3, .bool false, .int .i64 0, .string ⟨s.toArray⟩, .slice none 0 0, .slice none 0 0] from rfl, ← hB1] at R3
    have cB1 : Chg (fun _ => False) w7 B1 := by rw [hB1]; exact (Chg.refl _ w7).alloc _
    obtain ⟨B2, hB2⟩ : ∃ B2, B2 = B1.alloc (.cells #[.string ⟨#[97]⟩, .int .i64 4, .bool false, .int .i64 0, .string ⟨#[]⟩, .slice (some ⟨w7.heap.size, 0, none⟩) 2 2, .slice none 0 0, .string ⟨#[98]⟩, .int .i64 4, .bool false, .int .i64 0, .string ⟨#[]⟩, .slice none 0 0, .slice none 0 0] 32) := ⟨_, rfl⟩
    have R4 := Lib.hid (Reads.many B1 ((.string ⟨#[97]⟩ :: rowC (.slice (some ⟨w7.heap.size, 0, none⟩) 2 2)) ++ (.string ⟨#[98]⟩ :: rowC (.slice none 0 0))) 32 2 7 rfl (by simp [maxLen]))
    rw [show ((.string ⟨#[97]⟩ :: rowC (.slice (some ⟨w7.heap.size, 0, none⟩) 2 2)) ++ (.string ⟨#[98]⟩ :: rowC (.slice none 0 0)) : List Value).toArray = #[.string ⟨#[97]⟩, .int .i64 4, .bool false, .int .i64 0, .string ⟨#[]⟩, .slice (some ⟨w7.heap.size, 0, none⟩) 2 2, .slice none 0 0, .string ⟨#[98]⟩, .int .i64 4, .bool false, .int .i64 0, .string ⟨#[]⟩, .slice none 0 0, .slice none 0 0] from rfl, ← hB2, sB1] at R4
    have cB2 : Chg (fun _ => False) B1 B2 := by rw [hB2]; exact (Chg.refl _ B1).alloc _
    have sB2 : B2.heap.size = w7.heap.size + 1 + 1 := by rw [hB2, ← sB1]; show (B1.heap.push _).size = _; simp
    obtain ⟨ds, hds⟩ : ∃ ds, ds = thingC (.slice (some ⟨w7.heap.size + 1, 0, none⟩) 2 2) := ⟨_, rfl⟩
    have hsu := store_new (P := Tryd.prog) 26 [.int .i64 0, .bool false, .int .i64 0, .string ⟨#[]⟩, .slice none 0 0, .slice none 0 0] ds 26 (by rw [hds]; exact size_val) (by rw [hds]; rfl) (by rw [hds]; intro u hu; simp [thingC] at hu; rcases hu with rfl | rfl | rfl | rfl | rfl | rfl <;> rfl) B2
    obtain ⟨w8, hw8⟩ : ∃ w8, w8 = B2.alloc (.cells ds.toArray 26) := ⟨_, rfl⟩
    have c8 : Chg (fun _ => False) B2 w8 := by rw [hw8]; exact (Chg.refl _ B2).alloc _
    have b8 : Hid (w8.heap[w7.heap.size + 1 + 1]? = some (.cells ds.toArray 26 (0, 0))) := by rw [hw8, ← sB2]; exact heap_alloc_new B2 _
    rw [← hw8, show ds.toArray = #[.int .i64 5, .bool false, .int .i64 0, .string ⟨#[]⟩, .slice none 0 0, .slice (some ⟨w7.heap.size + 1, 0, none⟩) 2 2] by rw [hds]; rfl, sB2, hB2, hB1] at hsu
    have HDS := Lib.hid hds
    clear hw8 hds hB1 hB2 sB1 sB2
    go_wp2_with (first | refine wpList_store rfl 26 _ _ rfl _ _ _ rfl rfl hst ?_ | refine wpList_store rfl 26 _ _ rfl _ _ _ rfl rfl hsu ?_)
    have c78 : Chg (fun _ => False) w7 w8 := (cB1.trans cB2).trans c8
    have cA6 : Chg (fun _ => False) A1 w6 := ((c4.trans c5).trans cA2).trans c6
    have c08 : Chg (fun _ => False) w w8 := ((((c1.trans c2).trans c3).trans cA1).trans cA6).trans (c7.trans c78)
    have rep1 : (treeV n s).Rep w8 cs := by
      rw [HCS.out]
      exact rep_tree w8 n s _ _ _ (R1.out.kept (cA6.trans (c7.trans c78)) (fun _ _ h => h)) (Reads.nil w8 6) (R2.out.kept (c6.trans (c7.trans c78)) (fun _ _ h => h)) rfl rfl rfl
    have rep2 : (treeV n s).Rep w8 ds := by
      rw [HDS.out]
      exact rep_tree w8 n s _ _ _ (R3.out.kept (cB2.trans c8) (fun _ _ h => h)) (Reads.nil w8 6) (R4.out.kept c8 (fun _ _ h => h)) rfl rfl rfl
    have tok : (treeV n s).ok := by simp only [treeV, JV.ok, JV.oks]; exact ⟨rfl, ⟨HN.out, trivial, trivial⟩, trivial, trivial⟩
    have tln := treeV_len n s HS.out HN.out
    have h6 : Hid (cs.length = 6 ∧ ds.length = 6) := ⟨rep1.len.1, rep2.len.1⟩
    have HB : Hid (w8.drew.heap[w6.heap.size]? = some (.cells cs.toArray 26 (0, 0)) ∧ w8.drew.heap[w7.heap.size + 1 + 1]? = some (.cells ds.toArray 26 (0, 0))) := ⟨c78.heap b7.out (fun h => h), b8.out⟩
    have t8 := HT.out.same c08
    have HP1 : Hid (∀ w', Chg (fun _ => False) w8.drew w' → Calls Tryd.prog 10 #[.agg cs.toArray] w' fun e w'' => e = .returned (.string ⟨(treeV n s).txt.toArray⟩) ∧ Chg (fun _ => False) w' w'') := fun w' c => by
      have c' := ((Chg.refl (fun _ => False) w8).drew).trans c
      exact print_c _ cs w' tok tln (JV.Rep.same c' _ cs rep1) (t8.same c')
    have HP2 : Hid (∀ w', Chg (fun _ => False) w8.drew w' → Calls Tryd.prog 10 #[.agg ds.toArray] w' fun e w'' => e = .returned (.string ⟨(treeV n s).txt.toArray⟩) ∧ Chg (fun _ => False) w' w'') := fun w' c => by
      have c' := ((Chg.refl (fun _ => False) w8).drew).trans c
      exact print_c _ ds w' tok tln (JV.Rep.same c' _ ds rep2) (t8.same c')
    have HS8 : Hid (∀ w', Chg (fun _ => False) w8.drew w' → Calls Tryd.prog 11 #[.agg cs.toArray, .agg ds.toArray] w' fun e w'' => e = .returned (.bool true) ∧ Chg (fun _ => False) w' w'') := fun w' c => by
      have c' := ((Chg.refl (fun _ => False) w8).drew).trans c
      exact same_c _ cs ds w' tok tln (JV.Rep.same c' _ cs rep1) (JV.Rep.same c' _ ds rep2) (t8.same c')
    have C08 := Lib.hid c08
    clear hst hsu rep1 rep2 tok tln t8 R1 R2 R3 R4 HCS HDS b7 b8 c1 c2 c3 c4 c5 c6 c7 c8 cA1 cA2 cA6 cB1 cB2 c78 c08
    refine wpT.begin (fun _ => False) 11 (by kernel_rfl) rfl ?_
    refine wpT.ldA 0 rfl (by kernel_rfl) (fun _ _ _ _ h => h) rfl 26 _ rfl _ Tryd.underlying26 rfl w6.heap.size rfl cs (by rw [h6.out.1]; exact size_val) 26 (0, 0) HB.out.1 (fun h => h) ?_
    simp only [Act.put, List.setIfInBounds_toArray, List.set_cons_zero, List.set_cons_succ]
    refine wpT.ldA 2 rfl (by kernel_rfl) (fun _ _ _ _ h => h) rfl 26 _ rfl _ Tryd.underlying26 rfl (w7.heap.size + 1 + 1) rfl ds (by rw [h6.out.2]; exact size_val) 26 (0, 0) HB.out.2 (fun h => h) ?_
    simp only [Act.put, List.setIfInBounds_toArray, List.set_cons_zero, List.set_cons_succ]
    refine wpT.call 1 rfl (by kernel_rfl) rfl (fun K hK => ?_)
    go_wp2_with fail
    refine (HP1.out w8.drew (Chg.refl _ _)).mono ?_
    rintro e wb ⟨rfl, cb⟩
    refine hK _ _ cb ?_
    clear hK
    try (simp only [Act.put, List.setIfInBounds_toArray, List.set_cons_zero, List.set_cons_succ])
    refine wpT.call 3 rfl (by kernel_rfl) rfl (fun K hK => ?_)
    go_wp2_with fail
    refine (HP2.out wb cb).mono ?_
    rintro e wc ⟨rfl, cc⟩
    refine hK _ _ cc ?_
    clear hK
    try (simp only [Act.put, List.setIfInBounds_toArray, List.set_cons_zero, List.set_cons_succ])
    refine wpT.take 4 rfl (by kernel_rfl) (fun _ _ _ h => h) rfl (fun w' hw' => by go_simp <;> with_reducible rfl) ?_
    simp only [Act.put, List.setIfInBounds_toArray, List.set_cons_zero, List.set_cons_succ]
    refine wpT.take 5 rfl (by kernel_rfl) (fun _ _ _ h => h) rfl (fun w' hw' => by go_simp <;> with_reducible rfl) ?_
    simp only [Act.put, List.setIfInBounds_toArray, List.set_cons_zero, List.set_cons_succ]
    refine wpT.ldA 6 rfl (by kernel_rfl) (fun _ _ _ _ h => h) rfl 26 _ rfl _ Tryd.underlying26 rfl w6.heap.size rfl cs (by rw [h6.out.1]; exact size_val) 26 (0, 0) ((cb.trans cc).heap HB.out.1 (fun h => h)) (fun h => h) ?_
    simp only [Act.put, List.setIfInBounds_toArray, List.set_cons_zero, List.set_cons_succ]
    refine wpT.ldA 7 rfl (by kernel_rfl) (fun _ _ _ _ h => h) rfl 26 _ rfl _ Tryd.underlying26 rfl (w7.heap.size + 1 + 1) rfl ds (by rw [h6.out.2]; exact size_val) 26 (0, 0) ((cb.trans cc).heap HB.out.2 (fun h => h)) (fun h => h) ?_
    simp only [Act.put, List.setIfInBounds_toArray, List.set_cons_zero, List.set_cons_succ]
    refine wpT.call 8 rfl (by kernel_rfl) rfl (fun K hK => ?_)
    go_wp2_with fail
    refine (HS8.out wc (cb.trans cc)).mono ?_
    rintro e wd ⟨rfl, cd⟩
    refine hK _ _ cd ?_
    clear hK
    try (simp only [Act.put, List.setIfInBounds_toArray, List.set_cons_zero, List.set_cons_succ])
    refine wpT.take 9 rfl (by kernel_rfl) (fun _ _ _ h => h) rfl (fun w' hw' => by go_simp <;> with_reducible rfl) ?_
    simp only [Act.put, List.setIfInBounds_toArray, List.set_cons_zero, List.set_cons_succ]
    refine wpT.take 10 rfl (by kernel_rfl) (fun _ _ _ h => h) rfl (fun w' hw' => by go_simp <;> with_reducible rfl) ?_
    simp only [Act.put, List.setIfInBounds_toArray, List.set_cons_zero, List.set_cons_succ]
    refine wpT.done (by kernel_rfl) ?_
    go_wp2_with fail
    go_ret
    exact ⟨by simp, ((C08.out.drew.trans cb).trans cc).trans cd⟩
  · have hsI : (100 : Int) < s.length := by omega
    have HT := Lib.hid ht
    clear hn ht hs
    go_enter Tryd.func3, Tryd.ntmps3
    go_wp2_with (go_at_call 5; refine HL.out.mono ?_; rintro e w1 ⟨rfl, c1⟩; refine Hid.out ?_)
    refine Lib.hid ?_
    have HL2 := Lib.hid (lives_c w1 (HT.out.same c1))
    go_wp2_with (go_at_call 5; refine HL2.out.mono ?_; rintro e w2 ⟨rfl, c2⟩)
    go_ret
    exact ⟨rfl, c1.trans c2⟩
end Go.Proofs.YtmnnahkaenikkaaDoor
