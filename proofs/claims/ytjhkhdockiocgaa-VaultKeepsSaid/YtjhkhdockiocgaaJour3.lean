/- Contracts of package journal: Commit, Read, Wipe. -/
import Derived.Test.YtjhkhdockiocgaaJour2
import Derived.Test.YtjhkhdockiocgaaRecords
namespace Go.Proofs.Ytjhkhdockiocgaa
open Go.RowKit Go.Cat

theorem flushTo_append : ∀ (a b : List (Nat × List UInt8)) (l : List (List UInt8)), flushTo l (a ++ b) = flushTo (flushTo l a) b
  | [], _, _ => rfl
  | x :: a, b, l => by simp only [List.cons_append, flushTo]; exact flushTo_append a b _

set_option maxRecDepth 100000 in
set_option maxHeartbeats 1000000 in
theorem commitj_full (w : World) (J D lo n turn next : Nat) (a : Option Addr) (m c : Nat) (hj : JIs w J D lo n turn next) (hn : n ≤ 8192) (hx : next ≤ n) (hl : m ≤ 1000000) (hf : n < next + costN m) :
    Calls Try.prog 26 #[.pointer (some ⟨J, 0, none⟩), .slice a m c] w fun e w' => e = .returned (.int .i64 6) ∧ Chg (fun _ => False) w w' := by
  have H := Lib.hid (writej_full w J D lo n turn next a m c hj hn hx hl hf)
  clear hj hf
  go_enter Try.func26, Try.ntmps26
  go_wp2_with fail
  refine H.out.mono ?_
  rintro e w1 ⟨rfl, c1⟩
  go_wp2_with fail
  go_ret
  exact ⟨rfl, c1⟩
set_option maxRecDepth 100000 in
set_option maxHeartbeats 1000000 in
theorem commitj_ok (w : World) (J D lo n turn next : Nat) (lv wv v : Value) (d : Dev) (l : List UInt8) (h : DevIs w D lv wv d) (hj : JIs w J D lo n turn next) (hJ : ¬ foot D lv wv J) (hv : RBz w v l) (hd : d.down = false) (hl0 : d.left = 0)
    (hin : lo + n ≤ d.l.length) (hl : l.length ≤ 600) (hfit : next + costN l.length ≤ n) (ht : turn < 4294967296) (h0 : turn ≠ 0) (hm : d.waits.length ≤ 900000) :
    Calls Try.prog 26 #[.pointer (some ⟨J, 0, none⟩), v] w fun e w' => e = .returned (.int .i64 0) ∧ DevIs w' D lv (.slice none 0 0) { d with l := flushTo d.l (d.waits ++ wat (lo + next) (recSecs turn next l)), waits := [] } ∧ JIs w' J D lo n turn (next + costN l.length) ∧
      ∃ T, Chg T w w' ∧ ∀ k, k < w.heap.size → T k → foot D lv wv k ∨ k = J := by
  have hc := costN_le hl
  have hJl := hj.lt
  have H := Lib.hid (writej_ok w J D lo n turn next lv wv v d l h hj hJ hv hd hl0 hin hl hfit ht h0 hm)
  have HN := Lib.hid hJ
  have HD := Lib.hid hd
  have HF : Hid (∀ k, foot D lv wv k → k < w.heap.size) := fun k hk => by
    rcases hk with hk | hk | hk
    · obtain ⟨T, hb⟩ := h.heap; rw [hk]; exact (Array.getElem?_eq_some_iff.1 hb).1
    · exact h.ownL.lt k hk
    · exact h.ownW.lt k hk
  clear h hj hJ hv hd hl0 hfit
  go_enter Try.func26, Try.ntmps26
  go_wp2_with fail
  refine H.out.mono ?_
  rintro e w1 ⟨rfl, wv1, h1, j1, c1, i1⟩
  have hJ1 : ¬ foot D lv wv1 J := fun hk => by
    rcases hk with hk | hk | hk
    · exact HN.out (.inl hk)
    · exact HN.out (.inr (.inl hk))
    · rcases i1 J hk with hk | hk
      · exact HN.out (.inr (.inr hk))
      · omega
  have qd := j1.at 0 _ rfl
  have FL := Lib.hid (flush_ok w1 D lv wv1 _ h1 HD.out (by
    have e1 := wat_length (recSecs turn next l) (lo + next)
    rw [recSecs_length] at e1
    simp only [List.length_append, e1]; omega))
  have J1 := Lib.hid j1
  have C1 := Lib.hid c1
  have I1 := Lib.hid i1
  have HJ1 := Lib.hid hJ1
  clear h1 j1 c1 i1 hJ1
  go_wp2_with fail
  refine FL.out.mono ?_
  rintro e w2 ⟨rfl, h2, c2⟩
  go_wp2_with fail
  go_ret
  refine ⟨rfl, h2, J1.out.kept c2 HJ1.out, fun k => (foot D lv wv k ∨ k = J) ∨ foot D lv wv1 k, (C1.out.mono (fun _ _ h => .inl h)).trans (c2.mono (fun _ _ h => .inr h)), fun k hk hT => ?_⟩
  rcases hT with hT | hT
  · exact hT
  · rcases hT with hT | hT | hT
    · exact .inl (.inl hT)
    · exact .inl (.inr (.inl hT))
    · rcases I1.out k hT with h | h
      · exact .inl (.inr (.inr h))
      · omega

/-- All sectors that are read are known. -/
def KnownAll (X : List (List UInt8)) : Prop := ∀ x ∈ X, known x
set_option maxRecDepth 100000 in
set_option maxHeartbeats 1000000 in
theorem readj_no (w : World) (D : Nat) (lv wv : Value) (d : Dev) (h : DevIs w D lv wv d) (lo n : Int) (hlo : lo < 9223372036854775808) (hno : inB d.l.length lo n = false) :
    Calls Try.prog 30 #[.pointer (some ⟨D, 0, none⟩), .int .i64 lo, .int .i64 n] w fun e w' => e = .returned (.tuple #[.slice none 0 0, .int .u32 0, .int .i64 1]) ∧ w = w' := by
  have H := Lib.hid (lies_any w D lv wv d h lo n hlo)
  rw [hno] at H
  clear h hno
  go_enter Try.func30, Try.ntmps30
  go_wp2_with (first | (go_at_call 75; refine H.out.mono ?_; rintro e w' ⟨rfl, rfl⟩))
  exact bodyPost_ret (results_tmp3 rfl _ _ _) rfl ⟨rfl, rfl⟩
set_option maxRecDepth 100000 in
set_option maxHeartbeats 1000000 in
theorem readj_ok (w : World) (D : Nat) (lv wv : Value) (d : Dev) (lo n : Nat) (h : DevIs w D lv wv d) (hd : d.down = false) (h1 : 1 ≤ n) (hr : lo + n ≤ d.l.length) (hm : d.waits.length ≤ 1000000) (hk : KnownAll (readOf d.l d.waits lo n)) (hlen : (readOf d.l d.waits lo n).length = n) :
    Calls Try.prog 30 #[.pointer (some ⟨D, 0, none⟩), .int .i64 lo, .int .i64 n] w fun e w' => ∃ v' out F, e = .returned (.tuple #[v', .int .u32 (turnB ((readOf d.l d.waits lo n).headD [])), .int .i64 0]) ∧ OutsF w' F v' out ∧ (∀ q, F q → w.heap.size ≤ q) ∧
      Recs (turnB ((readOf d.l d.waits lo n).headD [])) (readOf d.l d.waits lo n) out ∧ Chg (fun _ => False) w w' := by
  have hmany := h.many
  have H := lies_any w D lv wv d h lo n (by omega)
  rw [show inB d.l.length lo n = true from decide_eq_true (by omega)] at H
  have H := Lib.hid H
  have R := Lib.hid (read_ok w D lv wv d lo n h hd hr hm)
  have RC : Hid (∀ v w, RB w v (readOf d.l d.waits lo n).flatten → _) := fun v w hv => records_any v w (readOf d.l d.waits lo n) hv hk (by omega) (by omega)
  obtain ⟨t, ht⟩ : ∃ t, t = turnB ((readOf d.l d.waits lo n).headD []) := ⟨_, rfl⟩
  rw [← ht] at RC ⊢
  obtain ⟨X, hX⟩ : ∃ X, X = readOf d.l d.waits lo n := ⟨_, rfl⟩
  rw [← hX] at RC R ⊢
  clear h hd hk hlen ht hX
  go_enter Try.func30, Try.ntmps30
  go_wp2_with (first | (go_at_call 75; refine H.out.mono ?_; rintro e w' ⟨rfl, rfl⟩))
  refine R.out.mono ?_
  rintro e w1 ⟨v1, rfl, hob, c1, f1⟩
  have CC := Lib.hid (RC.out v1 w1 hob.rb)
  obtain ⟨a1, k1, rfl⟩ := hob.form
  clear hob f1
  generalize X.flatten.length = q at CC ⊢
  have C1 := Lib.hid c1
  clear c1
  go_wp2_with fail
  refine CC.out.mono ?_
  rintro e w2 ⟨v2, out, F, rfl, ho, hF, hrec, c2⟩
  obtain ⟨a2, k2, rfl⟩ := ho.form
  have HO := Lib.hid ho
  have HF := Lib.hid hF
  have HR := Lib.hid hrec
  have C2 := Lib.hid c2
  clear ho hF hrec c2
  go_wp2_with fail
  exact bodyPost_ret (results_tmp3 rfl _ _ _) rfl ⟨_, out, F, rfl, HO.out, fun q hq => by have := HF.out q hq; have := C1.out.size; omega, HR.out, C1.out.trans C2.out⟩

set_option maxRecDepth 100000 in
set_option maxHeartbeats 1000000 in
theorem wipej_no (w : World) (D : Nat) (lv wv : Value) (d : Dev) (h : DevIs w D lv wv d) (lo n : Int) (hlo : lo < 9223372036854775808) (hno : inB d.l.length lo n = false) :
    Calls Try.prog 36 #[.pointer (some ⟨D, 0, none⟩), .int .i64 lo, .int .i64 n] w fun e w' => e = .returned (.int .i64 1) ∧ w = w' := by
  have H := Lib.hid (lies_any w D lv wv d h lo n hlo)
  rw [hno] at H
  clear h hno
  go_enter Try.func36, Try.ntmps36
  go_wp2_with (first | (go_at_call 75; refine H.out.mono ?_; rintro e w' ⟨rfl, rfl⟩))
  go_ret
  exact ⟨rfl, rfl⟩
theorem replicate_take_succ {α : Type} (n k : Nat) (x : α) (h : k < n) : (List.replicate n x).take (k + 1) = (List.replicate n x).take k ++ [x] := by
  rw [List.take_add_one, List.getElem?_replicate, if_pos h]; rfl
theorem pad_nil : pad [] = zb 64 := rfl
set_option maxRecDepth 100000 in
set_option maxHeartbeats 2000000 in
theorem wipej_ok (w : World) (D : Nat) (lv wv : Value) (d : Dev) (lo n : Nat) (h : DevIs w D lv wv d) (hd : d.down = false) (hl0 : d.left = 0) (h1 : 1 ≤ n) (hr : lo + n ≤ d.l.length) (hm : d.waits.length ≤ 900000) :
    Calls Try.prog 36 #[.pointer (some ⟨D, 0, none⟩), .int .i64 lo, .int .i64 n] w fun e w' => e = .returned (.int .i64 0) ∧ DevIs w' D lv (.slice none 0 0) { d with l := flushTo d.l (d.waits ++ wat lo (List.replicate n (zb 64))), waits := [] } ∧
      ∃ T, Chg T w w' ∧ ∀ k, k < w.heap.size → T k → foot D lv wv k := by
  have hmany := h.many
  have HL := lies_any w D lv wv d h lo n (by omega)
  rw [show inB d.l.length lo n = true from decide_eq_true (by omega)] at HL
  have HL := Lib.hid HL
  have H := Lib.hid h
  have HD := Lib.hid hd
  have HL0 := Lib.hid hl0
  clear h hd hl0
  go_enter Try.func36, Try.ntmps36
  go_wp2_with (first | (go_at_call 75; refine HL.out.mono ?_; rintro e w' ⟨rfl, rfl⟩))
  go_loopw [15] (fun i wr => ∃ (k : Nat) (wvk : Value), k ≤ n ∧ i = .int .i64 k ∧ DevIs wr D lv wvk { d with waits := d.waits ++ wat lo ((List.replicate n (zb 64)).take k) } ∧ Chg (foot D lv wv) w wr ∧ (∀ q, wvk.ownBlock = some q → wv.ownBlock = some q ∨ w.heap.size ≤ q)) (fun i _ => n - (intOf i).toNat)
  case atStart => exact ⟨0, wv, by omega, rfl, by simpa [wat] using H.out, Chg.refl _ _, fun q hq => .inl hq⟩
  case round =>
    obtain ⟨k, wvk, hk, rfl, hDk, ck, hin⟩ := hrel
    have hft : ∀ q, q < w.heap.size → foot D lv wvk q → foot D lv wv q := fun q hq hf => by
      rcases hf with hf | hf | hf
      · exact .inl hf
      · exact .inr (.inl hf)
      · rcases hin q hf with h1 | h1
        · exact .inr (.inr h1)
        · omega
    have zk := ck.size
    have HFT := Lib.hid hft
    have CK := Lib.hid ck
    have HIN := Lib.hid hin
    have HDK := Lib.hid hDk
    have hwl := wat_length ((List.replicate n (zb 64)).take k) lo
    clear hft ck hin hDk
    by_cases hlt : k < n
    · have WR : Hid (Calls Try.prog 79 #[.pointer (some ⟨D, 0, none⟩), .int .i64 ((lo : Int) + k), .slice none 0 0] wr fun e w' => e = .returned (.int .i64 0) ∧ ∃ wv', DevIs w' D lv wv' { d with waits := d.waits ++ wat lo ((List.replicate n (zb 64)).take (k + 1)) } ∧ Chg (foot D lv wvk) wr w' ∧ ∀ q, wv'.ownBlock = some q → wvk.ownBlock = some q ∨ wr.heap.size ≤ q) := by
        have := write_ok wr D lv wvk (.slice none 0 0) _ (lo + k) [] HDK.out (.inl (Reads.nil wr 1)) HD.out HL0.out (by show _ < d.l.length; omega) (by simp) (by simp only [List.length_append, hwl, List.length_take, List.length_replicate]; omega)
        rw [show ((lo + k : Nat) : Int) = (lo : Int) + k by omega] at this
        refine this.mono ?_
        rintro e w' ⟨rfl, wv', h1, h2, h3⟩
        refine ⟨rfl, wv', ?_, h2, h3⟩
        rw [replicate_take_succ _ _ _ hlt, wat_snoc, List.length_take, List.length_replicate, Nat.min_eq_left (by omega), ← List.append_assoc]
        exact h1
      clear hwl
      go_wp2_with fail
      refine WR.out.mono ?_
      rintro e w1 ⟨rfl, wv1, hD1, c1, i1⟩
      have hc1 : Chg (foot D lv wv) w w1 := CK.out.trans' c1 (fun q hq ht => HFT.out q hq ht)
      have hi1 : ∀ q, wv1.ownBlock = some q → wv.ownBlock = some q ∨ w.heap.size ≤ q := fun q hq => by
        rcases i1 q hq with h1 | h1
        · exact HIN.out q h1
        · exact .inr (by omega)
      have HC1 := Lib.hid hc1
      have HI1 := Lib.hid hi1
      have HD1 := Lib.hid hD1
      clear hc1 hi1 hD1 c1 i1
      go_wp2_with fail
      exact ⟨⟨k + 1, wv1, by omega, rfl, HD1.out, HC1.out, HI1.out⟩, by simp only [intOf]; omega⟩
    · obtain rfl : k = n := by omega
      have FL := Lib.hid (flush_ok wr D lv wvk _ HDK.out HD.out (by simp only [List.length_append, hwl, List.length_take, List.length_replicate]; omega))
      clear hwl
      go_wp2_with fail
      refine FL.out.mono ?_
      rintro e w2 ⟨rfl, h2, c2⟩
      go_wp2_with fail
      go_ret
      rw [List.take_of_length_le (by simp)] at h2
      exact ⟨rfl, h2, fun k => foot D lv wv k ∨ foot D lv wvk k, (CK.out.mono (fun _ _ h => .inl h)).trans (c2.mono (fun _ _ h => .inr h)), fun q hq hT => by
        rcases hT with hT | hT
        · exact hT
        · exact HFT.out q hq hT⟩
end Go.Proofs.Ytjhkhdockiocgaa
