/- Join, of sectors that go together: the record, in new memory. -/
import Derived.Test.YtjhkhdockiocgaaStamp
namespace Go.Proofs.Ytjhkhdockiocgaa
open Go.RowKit Go.Cat

set_option maxRecDepth 100000 in
set_option maxHeartbeats 1000000 in
theorem join_ok (v : Value) (w : World) (ss : List Sec) (hv : Reads w 4 v ss.length (flat ss)) (hd : ∀ s ∈ ss, RB w s.dv s.data) (hj : Joins ss) (hn : ss.length ≤ 10000) (hl : ∀ s ∈ ss, s.data.length ≤ 1000) :
    Calls Try.prog 116 #[v] w fun e w' => ∃ v', e = .returned (.tuple #[v', .int .i64 0]) ∧ Chg (fun _ => False) w w' ∧ OB w' v' (dataOf ss) ∧ Fresh w v' := by
  have hpos : 0 < ss.length := List.length_pos_iff.2 hj.1
  rcases hv.2 with ⟨rfl, h0⟩ | ⟨g, o, c, rfl, g1, g2, g3, g4⟩
  · omega
  have e0 : ((ss.length : Int) == 0) = false := by simp; exact fun h => by rw [h] at hpos; exact absurd hpos (by simp)
  obtain ⟨n, hnn⟩ : ∃ n, n = ss.length := ⟨_, rfl⟩
  rw [← hnn] at e0 hv g1 hn hpos ⊢
  have HN := Lib.hid hnn
  clear hnn
  have H4 := Lib.hid g4
  have HD := Lib.hid hd
  have HL := Lib.hid hl
  have HV := Lib.hid hv
  have HJ := Lib.hid hj
  clear g4 hd hl hv hj
  go_enter Try.func116, Try.ntmps116
  go_wp2_with fail
  go_loopw [4, 12] (fun out i wr => ∃ (k : Nat), k ≤ n ∧ i = .int .i64 k ∧ OB wr out (dataOf (ss.take k)) ∧ Fresh w out ∧ Chg (fun _ => False) w wr) (fun _ i _ => n - (intOf i).toNat)
  case atStart =>
    exact ⟨0, by omega, rfl, by simpa [dataOf] using OB.nil w, by simp [Fresh, Value.ownBlock], Chg.refl _ _⟩
  case round =>
    obtain ⟨k, hk, rfl, hob, hfr, hch⟩ := hrel
    by_cases hlt : k < n
    · obtain ⟨s, s0, hs, hs0, ht, hp⟩ := HJ.out.2.1 k (by rw [← HN.out]; exact hlt)
      have q0 : wr.cell? ⟨g, o + k * 4, none⟩ = some (.int .u32 s.turn) := hch.cell (H4.out (k * 4) _ (flat_get ss k 0 s hs (by omega))) (fun h => h)
      have q1 : wr.cell? ⟨g, o + k * 4 + 1, none⟩ = some (.int .u32 s.place) := hch.cell (H4.out (k * 4 + 1) _ (flat_get ss k 1 s hs (by omega))) (fun h => h)
      have q2 : wr.cell? ⟨g, o + k * 4 + 2, none⟩ = some (.bool s.last) := hch.cell (H4.out (k * 4 + 2) _ (flat_get ss k 2 s hs (by omega))) (fun h => h)
      have q3 : wr.cell? ⟨g, o + k * 4 + 3, none⟩ = some s.dv := hch.cell (H4.out (k * 4 + 3) _ (flat_get ss k 3 s hs (by omega))) (fun h => h)
      have z0 : wr.cell? ⟨g, o, none⟩ = some (.int .u32 s0.turn) := hch.cell (H4.out 0 _ (flat_get ss 0 0 s0 hs0 (by omega))) (fun h => h)
      have hgl : g < wr.heap.size := Nat.lt_of_lt_of_le g3 hch.size
      have hmem : s ∈ ss := List.mem_of_getElem? hs
      have hrb := (HD.out s hmem).kept hch (fun _ _ h => h)
      have hdl := HL.out s hmem
      obtain ⟨da, dc, hdv⟩ := hrb.form
      rw [hdv] at q3 hrb
      have HS := Lib.hid hs
      have HLEN : (dataOf (ss.take k)).length + s.data.length ≤ 140737488355328 := by
        have h2 := dataOf_length (ss.take k) 1000 (fun t ht => HL.out t (List.mem_of_mem_take ht))
        have h3 : (ss.take k).length ≤ k := List.length_take_le _ _
        have h4 := Nat.mul_le_mul_left 1000 h3
        omega
      have hd3 : Hid (dataOf (ss.take (k + 1)) = dataOf (ss.take k) ++ s.data) := by show _ = _; rw [List.take_add_one, hs]; simp [dataOf]
      have et : ((s.turn : Int) == s0.turn) = true := by simp [ht]
      have en : ((s.turn : Int) != s0.turn) = false := by simp [ht]
      have HP := Lib.hid hp
      clear hdv hs hs0 hmem ht hp hdl
      by_cases hk0 : k = 0
      · subst hk0
        go_wp2_with fail
        go_quiet (fail)
        go_wp2_with (at_builtin; go_loud (refine wpList_app_bytes rfl _ _ 33 rfl 5 Try.underlying33 Try.info5 u4 (.slice da s.data.length dc) (dataOf (ss.take 0)) s.data rfl rfl ((hob.alloc _).drewN _) ((hrb.alloc _).drewN _) HLEN ?_; intro v' w3 ob3 c3 in3 nn3))
        have hc3 : Chg (fun _ => False) w w3 := ((hch.alloc _).drewN _).new c3 (fun q hq => hfr q hq)
        have hf3 : Fresh w v' := fun q hq => by
          have := hch.size
          rcases in3 q hq with h | h
          · exact hfr q h
          · simp at h; omega
        rw [← hd3.out] at ob3
        exact ⟨⟨0 + 1, by omega, rfl, ob3, hf3, hc3⟩, by simp only [intOf]; omega⟩
      · obtain ⟨j, rfl⟩ : ∃ j, k = j + 1 := ⟨k - 1, by omega⟩
        obtain ⟨p, hp, hpl, hz, hla⟩ := HP.out (by omega)
        rw [show j + 1 - 1 = j from rfl] at hp
        have p1 : wr.cell? ⟨g, o + j * 4 + 1, none⟩ = some (.int .u32 p.place) := hch.cell (H4.out (j * 4 + 1) _ (flat_get ss j 1 p hp (by omega))) (fun h => h)
        have p2 : wr.cell? ⟨g, o + j * 4 + 2, none⟩ = some (.bool p.last) := hch.cell (H4.out (j * 4 + 2) _ (flat_get ss j 2 p hp (by omega))) (fun h => h)
        rw [hla] at p2
        have epl : ((s.place : Int) == ((p.place : Int) + 1) % 4294967296) = true := by simp; omega
        have epn : ((s.place : Int) != ((p.place : Int) + 1) % 4294967296) = false := by simp; omega
        have ez : ((s.place : Int) == 0) = false := by simp; omega
        clear hp hpl hz hla
        go_wp2_with fail
        go_quiet (fail)
        go_wp2_with (at_builtin; go_loud (refine wpList_app_bytes rfl _ _ 33 rfl 5 Try.underlying33 Try.info5 u4 (.slice da s.data.length dc) (dataOf (ss.take (j + 1))) s.data rfl rfl ((hob.alloc _).drewN _) ((hrb.alloc _).drewN _) HLEN ?_; intro v' w3 ob3 c3 in3 nn3))
        have hc3 : Chg (fun _ => False) w w3 := ((hch.alloc _).drewN _).new c3 (fun q hq => hfr q hq)
        have hf3 : Fresh w v' := fun q hq => by
          have := hch.size
          rcases in3 q hq with h | h
          · exact hfr q h
          · simp at h; omega
        rw [← hd3.out] at ob3
        exact ⟨⟨j + 1 + 1, by omega, rfl, ob3, hf3, hc3⟩, by simp only [intOf]; omega⟩
    · obtain rfl : k = n := by omega
      obtain ⟨j, rfl⟩ : ∃ j, k = j + 1 := ⟨k - 1, by omega⟩
      obtain ⟨p, hp, hla⟩ := HJ.out.2.2
      rw [← HN.out, show j + 1 - 1 = j from rfl] at hp
      have p2 : wr.cell? ⟨g, o + j * 4 + 2, none⟩ = some (.bool p.last) := hch.cell (H4.out (j * 4 + 2) _ (flat_get ss j 2 p hp (by omega))) (fun h => h)
      rw [hla] at p2
      have htake : ss.take (j + 1) = ss := List.take_of_length_le (by rw [← HN.out]; exact Nat.le_refl _)
      have HT := Lib.hid htake
      clear hp hla htake
      go_wp2_with fail
      go_ret2
      rw [HT.out] at hob
      exact ⟨_, rfl, hch, hob, hfr⟩
end Go.Proofs.Ytjhkhdockiocgaa
