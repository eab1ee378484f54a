/- The laws of layer 8: what their walks share. -/
import Derived.Test.YtncgeeaifacapaaDevice4
import Derived.Lib.SlBytesConst
namespace Go.Proofs.Ytncgeeaifacapaa
open Go.RowKit Go.Cat

/-- A device that was made since w0; nothing older has turned. -/
def DevUp (w0 w : World) (D : Nat) (d : Dev) : Prop := Chg (fun _ => False) w0 w ∧ DevAt w (fun k => w0.heap.size ≤ k) D d
theorem DevUp.next {w0 w w' : World} {D : Nat} {lv wv wv' : Value} {d' : Dev} (hc : Chg (fun _ => False) w0 w) (hf : ∀ k, foot D lv wv k → w0.heap.size ≤ k) (h : DevIs w' D lv wv' d') (c : Chg (foot D lv wv) w w') (hw : ∀ k, wv'.ownBlock = some k → wv.ownBlock = some k ∨ w.heap.size ≤ k) : DevUp w0 w' D d' := by
  refine ⟨hc.new c hf, lv, wv', h, fun k hk => ?_⟩
  have := hc.size
  rcases hk with hk | hk | hk
  · exact hf k (.inl hk)
  · exact hf k (.inr (.inl hk))
  · rcases hw k hk with h1 | h1
    · exact hf k (.inr (.inr h1))
    · omega
theorem DevUp.kept {w0 w w' : World} {D : Nat} {d : Dev} (h : DevUp w0 w D d) (c : Chg (fun _ => False) w w') : DevUp w0 w' D d := by
  obtain ⟨h1, lv, wv, h2, h3⟩ := h
  exact ⟨h1.trans c, lv, wv, h2.kept c (fun _ _ h => h), h3⟩
theorem up_new (w0 w : World) (n : Nat) (h1 : 1 ≤ n) (h2 : n ≤ 8192) (hc : Chg (fun _ => False) w0 w) :
    Calls Try.prog 28 #[.int .i64 n] w fun e w' => ∃ D, e = .returned (.tuple #[.pointer (some ⟨D, 0, none⟩), .int .i64 0]) ∧ DevUp w0 w' D ⟨List.replicate n (zb 64), [], false, 0, 0, 0, 0⟩ := by
  refine (new_dev n w h1 h2).mono ?_
  rintro e w' ⟨D, rfl, ⟨lv, wv, h3, h4⟩, c⟩
  exact ⟨D, rfl, hc.trans c, lv, wv, h3, fun k hk => by have := h4 k hk; have := hc.size; omega⟩
theorem up_write (w0 w : World) (D : Nat) (d : Dev) (at_ : Nat) (v : Value) (b : List UInt8) (h : DevUp w0 w D d) (hv : RB w v b) (hd : d.down = false) (hl : d.left = 0) (ha : at_ < d.l.length) (hb : b.length ≤ 64) (hm : d.waits.length ≤ 1000000) :
    Calls Try.prog 29 #[.pointer (some ⟨D, 0, none⟩), .int .i64 at_, v] w fun e w' => e = .returned (.int .i64 0) ∧ DevUp w0 w' D { d with waits := d.waits ++ [(at_, pad b)] } := by
  obtain ⟨hc, lv, wv, h1, h2⟩ := h
  refine (write_ok w D lv wv v d at_ b h1 (.inl hv) hd hl ha hb hm).mono ?_
  rintro e w' ⟨rfl, wv', h3, c, h4⟩
  exact ⟨rfl, DevUp.next hc h2 h3 c h4⟩
theorem up_writez (w0 w : World) (D : Nat) (d : Dev) (at_ : Nat) (v : Value) (b : List UInt8) (h : DevUp w0 w D d) (hv : RBz w v b) (hd : d.down = false) (hl : d.left = 0) (ha : at_ < d.l.length) (hb : b.length ≤ 64) (hm : d.waits.length ≤ 1000000) :
    Calls Try.prog 29 #[.pointer (some ⟨D, 0, none⟩), .int .i64 at_, v] w fun e w' => e = .returned (.int .i64 0) ∧ DevUp w0 w' D { d with waits := d.waits ++ [(at_, pad b)] } := by
  obtain ⟨hc, lv, wv, h1, h2⟩ := h
  refine (write_ok w D lv wv v d at_ b h1 hv hd hl ha hb hm).mono ?_
  rintro e w' ⟨rfl, wv', h3, c, h4⟩
  exact ⟨rfl, DevUp.next hc h2 h3 c h4⟩
theorem up_flush (w0 w : World) (D : Nat) (d : Dev) (h : DevUp w0 w D d) (hd : d.down = false) (hm : d.waits.length ≤ 1000000) :
    Calls Try.prog 30 #[.pointer (some ⟨D, 0, none⟩)] w fun e w' => e = .returned (.int .i64 0) ∧ DevUp w0 w' D { d with l := flushTo d.l d.waits, waits := [] } := by
  obtain ⟨hc, lv, wv, h1, h2⟩ := h
  refine (flush_ok w D lv wv d h1 hd hm).mono ?_
  rintro e w' ⟨rfl, h3, c⟩
  exact ⟨rfl, DevUp.next hc h2 h3 c (by simp [Value.ownBlock])⟩
theorem up_crash (w0 w : World) (D : Nat) (d : Dev) (keep : Nat) (torn bytes : Int) (h : DevUp w0 w D d) (hm : d.waits.length ≤ 1000000) :
    Calls Try.prog 31 #[.pointer (some ⟨D, 0, none⟩), .int .u64 keep, .int .i64 torn, .int .i64 bytes] w fun e w' => e = .returned (.tuple #[]) ∧ DevUp w0 w' D { d with l := crashTo keep torn bytes d.l d.waits d.waits.length, waits := [], down := true, left := 0 } := by
  obtain ⟨hc, lv, wv, h1, h2⟩ := h
  refine (crash_ok w D lv wv d keep torn bytes h1 hm).mono ?_
  rintro e w' ⟨rfl, h3, c⟩
  exact ⟨rfl, DevUp.next hc h2 h3 c (by simp [Value.ownBlock])⟩
theorem up_up (w0 w : World) (D : Nat) (d : Dev) (h : DevUp w0 w D d) :
    Calls Try.prog 49 #[.pointer (some ⟨D, 0, none⟩)] w fun e w' => e = .returned (.tuple #[]) ∧ DevUp w0 w' D { d with down := false, left := 0 } := by
  obtain ⟨hc, lv, wv, h1, h2⟩ := h
  refine (up_any w D lv wv d h1).mono ?_
  rintro e w' ⟨rfl, h3, c⟩
  exact ⟨rfl, DevUp.next hc h2 h3 (c.mono (fun k _ hk => .inl hk)) (fun k hk => .inl hk)⟩
theorem up_read (w0 w : World) (D : Nat) (d : Dev) (lo n : Nat) (h : DevUp w0 w D d) (hd : d.down = false) (hr : lo + n ≤ d.l.length) (hm : d.waits.length ≤ 1000000) :
    Calls Try.prog 51 #[.pointer (some ⟨D, 0, none⟩), .int .i64 lo, .int .i64 n] w fun e w' => ∃ v', e = .returned (.tuple #[v', .int .i64 0]) ∧ OB w' v' (readOf d.l d.waits lo n).flatten ∧ DevUp w0 w' D d ∧ Chg (fun _ => False) w w' := by
  obtain ⟨hc, lv, wv, h1, h2⟩ := h
  refine (read_ok w D lv wv d lo n h1 hd hr hm).mono ?_
  rintro e w' ⟨v', rfl, h3, c, _⟩
  exact ⟨v', rfl, h3, DevUp.kept ⟨hc, lv, wv, h1, h2⟩ c, c⟩
theorem up_image (w0 w : World) (D : Nat) (d : Dev) (h : DevUp w0 w D d) :
    Calls Try.prog 33 #[.pointer (some ⟨D, 0, none⟩)] w fun e w' => ∃ v', e = .returned v' ∧ OB w' v' d.l.flatten ∧ DevUp w0 w' D d ∧ Chg (fun _ => False) w w' := by
  obtain ⟨hc, lv, wv, h1, h2⟩ := h
  refine (image_any w D lv wv d h1).mono ?_
  rintro e w' ⟨v', rfl, h3, c, _⟩
  exact ⟨v', rfl, h3, DevUp.kept ⟨hc, lv, wv, h1, h2⟩ c, c⟩

theorem str_snoc (l : List UInt8) (m : List UInt8) : (⟨l.toArray⟩ : ByteArray) ++ ⟨m.toArray⟩ = ⟨(l ++ m).toArray⟩ := by
  apply ByteArray.ext
  simp
def strLen : Value → Nat
  | .string s => s.size
  | _ => 0
set_option maxRecDepth 100000 in
theorem full_any (l : List UInt8) (w : World) (hl : l.length ≤ 64) :
    Calls Try.prog 32 #[.string ⟨l.toArray⟩] w fun e w' => e = .returned (.string ⟨(pad l).toArray⟩) ∧ w = w' := by
  go_enter Try.func32, Try.ntmps32
  go_wp2_with fail
  go_loopw [0] (fun b wr => ∃ m : List UInt8, b = .string ⟨m.toArray⟩ ∧ m.length ≤ 64 ∧ pad m = pad l ∧ wr = w) (fun b _ => 64 - strLen b)
  case atStart =>
    exact ⟨l, rfl, hl, rfl, rfl⟩
  case round =>
    obtain ⟨m, rfl, hm, hp, rfl⟩ := hrel
    have HP := Lib.hid hp
    have HS : Hid ((⟨m.toArray⟩ : ByteArray) ++ ⟨#[0]⟩ = ⟨(m ++ [0]).toArray⟩) := str_snoc m [0]
    clear hp
    by_cases hlt : m.length < 64
    · have h64 : (m.length : Int) < 64 := by omega
      have HM := Lib.hid hm
      clear hm
      go_wp2_with fail
      rw [HS.out]
      refine ⟨⟨m ++ [0], rfl, by simp; omega, ?_, trivial⟩, by simp [strLen, ByteArray.size]; omega⟩
      rw [← HP.out]
      unfold pad
      rw [List.append_assoc]
      congr 1
      rw [List.length_append, List.length_singleton, show 64 - m.length = (64 - (m.length + 1)) + 1 by omega]
      rfl
    · have h64 : ¬ (m.length : Int) < 64 := by omega
      have hm64 : m.length = 64 := by omega
      have e : pad m = m := by unfold pad; rw [hm64]; simp
      have HE : Hid (m = pad l) := by rw [← HP.out, e]; trivial
      clear hm hlt hm64 e
      go_wp2_with fail
      go_ret
      rw [HE.out]
      exact ⟨rfl, rfl⟩

theorem conv_const (w : World) (C : Array Value) (n c : Nat) : (convert 26 26 (.slice (some ⟨w.heap.size, 0, none⟩) n c)).run Try.prog (w.alloc (.cells C 5)) = .ok (.slice (some ⟨w.heap.size, 0, none⟩) n c) (w.alloc (.cells C 5 (C.size, C.size + 1))) :=
  Lib.run_convert_bytes_const w 26 5 C n c Try.underlying26 Try.underlying5
theorem rb_lit (w : World) (T : TypeId) (l : List UInt8) (cs : Array Value) (f : Nat × Nat) (n : Nat) (hc : cs = (bs l).toArray) (hn : n = l.length) (hm : l.length ≤ maxLen) : RB (w.alloc (.cells cs T f)) (.slice (some ⟨w.heap.size, 0, none⟩) n n) l := by
  subst hc hn
  refine ⟨by simp, .inr ⟨w.heap.size, 0, l.length, rfl, by simp, hm, by simp, fun j u hj => ?_⟩⟩
  rw [Nat.zero_add, cell_of_heap (heap_at_new _ _ _ rfl)]
  simpa using hj

set_option maxRecDepth 100000 in
set_option maxHeartbeats 1000000 in
theorem lives08 (w : World) : Calls Try.prog 27 #[] w fun e w' => e = .returned (.bool true) ∧ Chg (fun _ => False) w w' := by
  go_enter Try.func27, Try.ntmps27
  go_wp2_with fail
  refine (up_new w w 2 (by omega) (by omega) (Chg.refl _ w)).mono ?_
  rintro e w1 ⟨D, rfl, h1⟩
  have H1 := Lib.hid h1
  clear h1
  have kc := conv_const
  go_wp2_with fail
  refine (up_write w _ D _ 1 _ [97, 97] (H1.out.kept ((Chg.refl _ w1).alloc _)) (rb_lit w1 _ [97, 97] _ _ _ rfl rfl (by simp [maxLen])) rfl rfl (by simp) (by simp) (by simp)).mono ?_
  rintro e w2 ⟨rfl, h2⟩
  have H2 := Lib.hid h2
  clear h2 H1
  go_wp2_with fail
  refine (up_flush w w2 D _ H2.out rfl (by simp)).mono ?_
  rintro e w3 ⟨rfl, h3⟩
  have H3 := Lib.hid h3
  clear h3 H2
  go_wp2_with fail
  refine (up_write w _ D _ 1 _ [98, 98] (H3.out.kept ((Chg.refl _ w3).alloc _)) (rb_lit w3 _ [98, 98] _ _ _ rfl rfl (by simp [maxLen])) rfl rfl (by simp [flushTo]) (by simp) (by simp)).mono ?_
  rintro e w4 ⟨rfl, h4⟩
  have H4 := Lib.hid h4
  clear h4 H3
  go_wp2_with fail
  refine (up_crash w w4 D _ 1 0 1 H4.out (by simp)).mono ?_
  rintro e w5 ⟨rfl, h5⟩
  have H5 := Lib.hid h5
  clear h5 H4
  go_wp2_with fail
  refine (up_up w w5 D _ H5.out).mono ?_
  rintro e w6 ⟨rfl, h6⟩
  have H6 := Lib.hid h6
  clear h6 H5
  go_wp2_with fail
  refine (up_read w w6 D _ 1 1 H6.out rfl (of_decide_eq_true (by kernel_rfl)) (by simp)).mono ?_
  rintro e w7 ⟨v, rfl, h7, h8, _⟩
  obtain ⟨l7, hl7⟩ : ∃ l, l = (readOf (crashTo 1 0 1 (flushTo (List.replicate 2 (zb 64)) ([] ++ [(1, pad [97, 97])])) ([] ++ [(1, pad [98, 98])]) ([] ++ [(1, pad [98, 98])]).length) [] 1 1).flatten := ⟨_, rfl⟩
  have h7' : OB w7 v l7 := by rw [hl7]; exact h7
  have hlen : l7.length = 64 := by rw [hl7]; kernel_rfl
  have htk : l7.take 3 = [98, 97, 0] := by rw [hl7]; kernel_rfl
  obtain ⟨a, c, rfl⟩ := h7'.form
  have hcap := h7'.rb.cap_ge.2
  have h3 : (3 : Int) ≤ c := by omega
  have hpc : RB w7 (.slice a 3 c) [98, 97, 0] := by
    have := Owns.front h7' (hi := 3) (m := c) (by omega) (by omega) (Nat.le_refl _)
    have e : (bs l7).take (3 * 1) = bs [98, 97, 0] := by rw [← htk]; simp [bs]
    rw [e] at this
    exact Owns.reads this
  have hcv := convb w7 _ _ hpc
  have hc := h8.1
  rw [hlen]
  clear hpc h7' h7 hl7 hlen htk h8 hcap H6
  go_wp2_with fail
  go_ret
  exact ⟨rfl, hc⟩
end Go.Proofs.Ytncgeeaifacapaa
