/- Contracts of package command: a coder that reads: points. -/
import Derived.Test.YtjhkhdockiocgaaCmd7
namespace Go.Proofs.Ytjhkhdockiocgaa
open Go.RowKit Go.Cat

def rdPnt (st : RS) : Pnt × RS := (⟨(rdInt st).1, (rdInt (rdInt st).2).1⟩, (rdInt (rdInt st).2).2)
theorem rdPnt_len (st : RS) : (rdPnt st).2.1.length ≤ st.1.length := Nat.le_trans (rdInt_len _) (rdInt_len _)
/-- k points more, behind acc; none, once an error is there. -/
def rdRow : Nat → List Pnt → RS → List Pnt × RS
  | 0, acc, st => (acc, st)
  | k + 1, acc, st => if (rdPnt st).2.2 ≠ 0 then ([], (rdPnt st).2) else rdRow k (acc ++ [(rdPnt st).1]) (rdPnt st).2
def rdPts (st : RS) : List Pnt × RS := rdRow (rdCount 255 st).1 [] (rdCount 255 st).2

set_option maxRecDepth 100000 in
set_option maxHeartbeats 1000000 in
theorem pget_any (w : World) (S : Nat → Prop) (b : Nat) (st : RS) (h : ReaderAt w S b st.1 st.2) (hS : ∀ k, S k → k < w.heap.size) (hl : st.1.length ≤ 140737488355328) :
    Calls Try.prog 127 #[.pointer (some ⟨b, 0, none⟩)] w fun e w' => e = .returned (.agg #[.int .i64 (rdPnt st).1.at_, .int .i64 (rdPnt st).1.val]) ∧ ReaderAt w' S b (rdPnt st).2.1 (rdPnt st).2.2 ∧ Chg (fun k => k = b) w w' := by
  have hSb : S b := by obtain ⟨_, _, _, _, _, h5, _⟩ := h; exact h5
  have hbl := hS b hSb
  obtain ⟨w1, hw1⟩ : ∃ w1, w1 = w.alloc (.cells #[.int .i64 0, .int .i64 0] 116) := ⟨_, rfl⟩
  have c1 : Chg (fun _ => False) w w1 := by rw [hw1]; exact (Chg.refl _ w).alloc _
  have hp1 : w1.heap[w.heap.size]? = some (.cells #[.int .i64 0, .int .i64 0] 116 (0, 0)) := by rw [hw1]; exact heap_at_new _ _ _ rfl
  have H1 := Lib.hid (h.kept c1 (fun _ _ h => h))
  have HP1 := Lib.hid hp1
  have HW1 := Lib.hid hw1
  have hl2 := rdInt_len st
  unfold rdPnt
  obtain ⟨⟨x, q⟩, hx⟩ : ∃ r, r = rdInt st := ⟨_, rfl⟩
  have I1 := Lib.hid (rint_any w1 S b st H1.out hl)
  rw [← hx] at I1 hl2 ⊢
  simp only at I1 hl2 ⊢
  obtain ⟨⟨y, r⟩, hy⟩ : ∃ z, z = rdInt q := ⟨_, rfl⟩
  have I2 := Lib.hid (fun w h => rint_any w S b q h (by omega))
  rw [← hy] at I2 ⊢
  simp only at I2 ⊢
  clear h hp1 hw1 hx hy
  go_enter Try.func127, Try.ntmps127
  go_wp2_with fail
  rw [← HW1.out]
  refine I1.out.mono ?_
  rintro e w2 ⟨rfl, h2, c2⟩
  have H2 := Lib.hid h2
  clear h2
  go_wp2_with fail
  refine (I2.out w2 H2.out).mono ?_
  rintro e w3 ⟨rfl, h3, c3⟩
  have H3 := Lib.hid h3
  have hp3 : w3.heap[w.heap.size]? = some (.cells #[.int .i64 0, .int .i64 0] 116 (0, 0)) := (c2.trans c3).heap HP1.out (fun h => absurd h (by omega))
  obtain ⟨w4, hw4⟩ : ∃ w4, w4 = w3.setCells w.heap.size 0 [.int .i64 x, .int .i64 y] := ⟨_, rfl⟩
  have HST : Hid ((Instr.storeAt 116 (.pointer (some ⟨w.heap.size, 0, none⟩)) (.agg #[.int .i64 x, .int .i64 y])).run Try.prog w3 = .ok () w4) := by
    show _ = _
    rw [hw4]
    exact run_storeAt_agg (P := Try.prog) w3 116 w.heap.size 0 [.int .i64 x, .int .i64 y] (by kernel_rfl) (fun j hj => by
      rw [cell_of_heap hp3]
      match j, hj with
      | 0, _ => rfl
      | 1, _ => rfl) (fun j _ => frozen_of_heap hp3 _) (fun v hv => by
      simp only [List.mem_cons, List.not_mem_nil, or_false] at hv
      rcases hv with rfl | rfl <;> rfl)
  have H4 : Hid (w4.heap[w.heap.size]? = some (.cells #[.int .i64 x, .int .i64 y] 116 (0, 0))) := by
    show _ = _
    rw [hw4]
    exact Cat.heap_setCell_same (Cat.heap_setCell_same hp3 0 _) 1 _
  have c4 : Chg (fun k => k = w.heap.size) w3 w4 := by rw [hw4]; exact Chg.setCells _ _ _ _
  have C4 := Lib.hid c4
  clear h3 hp3 hw4 c4
  go_wp2_with (refine wpList_store rfl 116 _ _ rfl _ _ _ rfl rfl HST.out ?_)
  simp only [Act.put, List.setIfInBounds_toArray, List.set_cons_zero, List.set_cons_succ]
  refine bodyPost_ret (v := .agg #[.int .i64 x, .int .i64 y]) ?_ rfl ?_
  · exact results_cell_row (fn := Try.f127) (p := 2) (ty := 116) rfl _ _ (w.heap.size) _ _ (0, 0) _ rfl H4.out Try.underlying116 rfl (by kernel_rfl)
  refine ⟨rfl, H3.out.kept C4.out (fun k hk e => by have := hS k hk; omega), ?_⟩
  have c13 : Chg (fun k => k = b) w w3 := (c1.mono (fun _ _ h => h.elim)).trans (c2.trans c3)
  exact c13.trans' C4.out (fun i hi h => by omega)

theorem load_pnt (w : World) (g : Nat) (x y : Int) (T : TypeId) (hg : w.heap[g]? = some (.cells #[.int .i64 x, .int .i64 y] T (0, 0))) :
    (Instr.loadAt 116 (.pointer (some ⟨g, 0, none⟩))).run Try.prog w = .ok (.agg #[.int .i64 x, .int .i64 y]) w := by
  refine run_loadAt_agg (P := Try.prog) w 116 _ g 0 [.int .i64 x, .int .i64 y] Try.underlying116 rfl (by kernel_rfl) (fun j u hj => ?_)
  rw [cell_of_heap hg, Nat.zero_add]
  simpa using hj
set_option maxRecDepth 100000 in
set_option maxHeartbeats 2000000 in
theorem oget_any (w : World) (S : Nat → Prop) (b : Nat) (st : RS) (h : ReaderAt w S b st.1 st.2) (hS : ∀ k, S k → k < w.heap.size) (hl : st.1.length ≤ 140737488355328) :
    Calls Try.prog 126 #[.pointer (some ⟨b, 0, none⟩), .int .i64 255, .func (.func 127) #[] #[]] w fun e w' => ∃ v, e = .returned v ∧ Reads w' 2 v (rdPts st).1.length ((rdPts st).1.flatMap Pnt.cells) ∧ (∀ k, v.ownBlock = some k → w.heap.size ≤ k) ∧ ReaderAt w' S b (rdPts st).2.1 (rdPts st).2.2 ∧ Chg (fun k => k = b) w w' := by
  have hSb : S b := by obtain ⟨_, _, _, _, _, h5, _⟩ := h; exact h5
  have CN := Lib.hid (rcount_any w S b st 255 h hl)
  have hln := rdCount_len 255 st
  have hle := rdCount_le 255 st
  unfold rdPts
  obtain ⟨⟨n, s0⟩, hx⟩ : ∃ r, r = rdCount 255 st := ⟨_, rfl⟩
  rw [← hx] at CN hln hle ⊢
  simp only at CN hln hle ⊢
  clear h hx
  have hn255 : n ≤ 255 := by omega
  go_enter Try.func126, Try.ntmps126
  go_wp2_with fail
  refine CN.out.mono ?_
  rintro e w1 ⟨rfl, h1, c1⟩
  have H1 := Lib.hid h1
  have z1 := c1.size
  clear h1 hle
  go_wp2_with fail
  go_loopw [7, 8, 12] (fun v _ i wr => ∃ (k : Nat) (acc : List Pnt) (sk : RS), k ≤ n ∧ i = .int .i64 k ∧ Hid (rdRow (n - k) acc sk = rdRow n [] s0) ∧ acc.length = k ∧ Hid (Owns wr 2 v acc.length (acc.flatMap Pnt.cells)) ∧ Hid (∀ q, v.ownBlock = some q → w.heap.size ≤ q) ∧ Hid (ReaderAt wr S b sk.1 sk.2) ∧ sk.1.length ≤ st.1.length ∧ Hid (Chg (fun q => q = b) w wr)) (fun _ _ i _ => n - (intOf i).toNat)
  case atStart => exact ⟨0, [], s0, by omega, rfl, rfl, rfl, Owns.nil _ _, fun q hq => by simp [Value.ownBlock] at hq, H1.out, hln, c1⟩
  case round =>
    obtain ⟨k, acc, sk, hk, rfl, hR, hac, hO, hV, hRd, hsl, hG⟩ := hrel
    obtain ⟨va, vc, rfl⟩ := hO.out.form
    subst hac
    obtain ⟨k, hkk⟩ : ∃ k, k = acc.length := ⟨_, rfl⟩
    rw [← hkk] at hk hR hO hV ⊢
    have HK := Lib.hid hkk
    clear hkk
    by_cases hlt : k < n
    · have hkI : (k : Int) < n := by omega
      have hw1 : wrap64 ((k : Int) + 1) = (k : Int) + 1 := by unfold wrap64; omega
      have zG := hG.out.size
      have ONE := Lib.hid (pget_any wr S b sk hRd.out (fun q hq => Nat.lt_of_lt_of_le (hS q hq) zG) (by omega))
      have hpl := rdPnt_len sk
      have hstep : rdRow (n - k) acc sk = if (rdPnt sk).2.2 ≠ 0 then ([], (rdPnt sk).2) else rdRow (n - (k + 1)) (acc ++ [(rdPnt sk).1]) (rdPnt sk).2 := by
        rw [show n - k = n - (k + 1) + 1 by omega]; rfl
      rw [hR.out] at hstep
      obtain ⟨⟨⟨x, y⟩, l2, e2⟩, hx⟩ : ∃ r, r = rdPnt sk := ⟨_, rfl⟩
      rw [← hx] at ONE hpl hstep
      simp only at ONE hpl hstep
      have HST := Lib.hid hstep
      clear hx hstep hR
      go_wp2_with fail
      refine ONE.out.mono ?_
      rintro e w2 ⟨rfl, h2, c2⟩
      have H2 := Lib.hid h2
      have z2 := c2.size
      have O2 := Lib.hid (hO.out.kept c2 (fun q hq e => by have := hV.out q hq; have := hS b hSb; omega))
      have hG2 : Hid (Chg (fun q => q = b) w w2) := hG.out.trans c2
      clear h2 hO hG
      obtain ⟨w3, hw3⟩ : ∃ w3, w3 = w2.alloc (.cells #[.int .i64 x, .int .i64 y] 116) := ⟨_, rfl⟩
      go_wp2_with fail
      rw [← hw3]
      have c3 : Chg (fun _ => False) w2 w3 := by rw [hw3]; exact (Chg.refl _ w2).alloc _
      have H3 := Lib.hid (H2.out.kept c3 (fun _ _ h => h))
      have O3 := Lib.hid (O2.out.kept c3 (fun _ _ h => h))
      have P3 : Hid (w3.heap[w2.heap.size]? = some (.cells #[.int .i64 x, .int .i64 y] 116 (0, 0))) := by rw [hw3]; exact heap_at_new _ _ _ rfl
      have hG3 : Hid (Chg (fun q => q = b) w w3) := hG2.out.trans (c3.mono (fun _ _ h => h.elim))
      have z3 : Hid (w3.heap.size = w2.heap.size + 1) := by show _ = _; rw [hw3]; simp
      clear hw3 H2 O2 hG2
      refine (rerr_any w3 S b l2 e2 H3.out).mono ?_
      rintro e w4 ⟨rfl, rfl⟩
      by_cases he : e2 = 0
      · have hRR : Hid (rdRow (n - (k + 1)) (acc ++ [⟨x, y⟩]) (l2, e2) = rdRow n [] s0) := by show _ = _; rw [HST.out, if_neg (by simpa using he)]
        subst he
        have lp := load_pnt w3 _ x y _ P3.out
        go_wp2_with (first | refine wpList_loadG 116 _ rfl rfl _ _ rfl lp ?_ | (at_builtin; go_loud (refine wpList_app_one rfl _ _ 22 rfl 116 (.agg #[.int .i64 0, .int .i64 0]) 2 16 Try.underlying22 (by kernel_rfl) rfl (.slice va k vc) k (acc.flatMap Pnt.cells) [.int .i64 x, .int .i64 y] _ rfl rfl O3.out rfl (by simp [Value.oneCell']) (by simp only [maxLen]; omega) (by omega) ?_; intro v' w5 own5 c5 in5 nn5)))
        have hne := Lib.hid hV.out
        refine ⟨⟨k + 1, acc ++ [⟨x, y⟩], (l2, 0), by omega, rfl, hRR, by simp [HK.out], ?_, fun q hq => ?_, H3.out.kept c5 (fun q hq e => ?_), by simp only; omega, hG3.out.trans' c5 (fun i hi e => ?_)⟩, by simp only [intOf]; omega⟩
        · show Owns _ _ _ _ _
          have : Owns w5 2 v' (k + 1) (acc.flatMap Pnt.cells ++ [.int .i64 x, .int .i64 y]) := own5
          rw [HK.out] at this
          simpa [Pnt.cells] using this
        · rcases in5 q hq with e | e
          · exact hV.out q e
          · have h7 := z3.out; omega
        · have := hV.out q e; have := hS q hq; omega
        · have := hV.out i e; omega
      · have e0 : (e2 == 0) = false := by simpa using he
        have hRR : Hid (rdRow n [] s0 = ([], (l2, e2))) := by show _ = _; rw [HST.out, if_pos he]
        clear he
        go_wp2_with fail
        go_ret
        rw [hRR.out]
        exact ⟨_, rfl, Reads.nil _ 2, by simp [Value.ownBlock], H3.out, hG3.out⟩
    · obtain rfl : k = n := by omega
      have hRR : Hid (rdRow k [] s0 = (acc, sk)) := by show _ = _; rw [← hR.out, Nat.sub_self]; rfl
      go_wp2_with fail
      go_ret
      rw [hRR.out]
      exact ⟨_, rfl, by rw [← HK.out]; exact hO.out.reads, hV.out, hRd.out, hG.out⟩
end Go.Proofs.Ytjhkhdockiocgaa
