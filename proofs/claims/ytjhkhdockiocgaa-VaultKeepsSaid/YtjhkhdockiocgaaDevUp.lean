/- A device that was made since a world w0, and nothing older has turned. -/
import Derived.Test.YtjhkhdockiocgaaDevice4
namespace Go.Proofs.Ytjhkhdockiocgaa
open Go.RowKit Go.Cat

/-- A device that was made since w0; nothing older has turned. -/
def DevUp (w0 w : World) (D : Nat) (d : Dev) : Prop := Chg (fun _ => False) w0 w ∧ DevAt w (fun k => w0.heap.size ≤ k) D d
theorem DevUp.next {w0 w w' : World} {D : Nat} {lv wv wv' : Value} {d' : Dev} (hc : Chg (fun _ => False) w0 w) (hf : ∀ k, foot D lv wv k → w0.heap.size ≤ k) (h : DevIs w' D lv wv' d') (c : Chg (foot D lv wv) w w') (hw : ∀ k, wv'.ownBlock = some k → wv.ownBlock = some k ∨ w.heap.size ≤ k) : DevUp w0 w' D d' := by
  refine ⟨hc.new c hf, lv, wv', h, fun k hk => ?_⟩
  have := hc.size
  rcases hk with hk | hk | hk
  · exact hf k (.inl hk)
  · exact hf k (.inr (.inl hk))
  · rcases hw k hk with h1 | h1
    · exact hf k (.inr (.inr h1))
    · omega
theorem DevUp.kept {w0 w w' : World} {D : Nat} {d : Dev} (h : DevUp w0 w D d) (c : Chg (fun _ => False) w w') : DevUp w0 w' D d := by
  obtain ⟨h1, lv, wv, h2, h3⟩ := h
  exact ⟨h1.trans c, lv, wv, h2.kept c (fun _ _ h => h), h3⟩
theorem up_new (w0 w : World) (n : Nat) (h1 : 1 ≤ n) (h2 : n ≤ 8192) (hc : Chg (fun _ => False) w0 w) :
    Calls Try.prog 24 #[.int .i64 n] w fun e w' => ∃ D, e = .returned (.tuple #[.pointer (some ⟨D, 0, none⟩), .int .i64 0]) ∧ DevUp w0 w' D ⟨List.replicate n (zb 64), [], false, 0, 0, 0, 0⟩ := by
  refine (new_dev n w h1 h2).mono ?_
  rintro e w' ⟨D, rfl, ⟨lv, wv, h3, h4⟩, c⟩
  exact ⟨D, rfl, hc.trans c, lv, wv, h3, fun k hk => by have := h4 k hk; have := hc.size; omega⟩
theorem up_write (w0 w : World) (D : Nat) (d : Dev) (at_ : Nat) (v : Value) (b : List UInt8) (h : DevUp w0 w D d) (hv : RB w v b) (hd : d.down = false) (hl : d.left = 0) (ha : at_ < d.l.length) (hb : b.length ≤ 64) (hm : d.waits.length ≤ 1000000) :
    Calls Try.prog 79 #[.pointer (some ⟨D, 0, none⟩), .int .i64 at_, v] w fun e w' => e = .returned (.int .i64 0) ∧ DevUp w0 w' D { d with waits := d.waits ++ [(at_, pad b)] } := by
  obtain ⟨hc, lv, wv, h1, h2⟩ := h
  refine (write_ok w D lv wv v d at_ b h1 (.inl hv) hd hl ha hb hm).mono ?_
  rintro e w' ⟨rfl, wv', h3, c, h4⟩
  exact ⟨rfl, DevUp.next hc h2 h3 c h4⟩
theorem up_writez (w0 w : World) (D : Nat) (d : Dev) (at_ : Nat) (v : Value) (b : List UInt8) (h : DevUp w0 w D d) (hv : RBz w v b) (hd : d.down = false) (hl : d.left = 0) (ha : at_ < d.l.length) (hb : b.length ≤ 64) (hm : d.waits.length ≤ 1000000) :
    Calls Try.prog 79 #[.pointer (some ⟨D, 0, none⟩), .int .i64 at_, v] w fun e w' => e = .returned (.int .i64 0) ∧ DevUp w0 w' D { d with waits := d.waits ++ [(at_, pad b)] } := by
  obtain ⟨hc, lv, wv, h1, h2⟩ := h
  refine (write_ok w D lv wv v d at_ b h1 hv hd hl ha hb hm).mono ?_
  rintro e w' ⟨rfl, wv', h3, c, h4⟩
  exact ⟨rfl, DevUp.next hc h2 h3 c h4⟩
theorem up_flush (w0 w : World) (D : Nat) (d : Dev) (h : DevUp w0 w D d) (hd : d.down = false) (hm : d.waits.length ≤ 1000000) :
    Calls Try.prog 76 #[.pointer (some ⟨D, 0, none⟩)] w fun e w' => e = .returned (.int .i64 0) ∧ DevUp w0 w' D { d with l := flushTo d.l d.waits, waits := [] } := by
  obtain ⟨hc, lv, wv, h1, h2⟩ := h
  refine (flush_ok w D lv wv d h1 hd hm).mono ?_
  rintro e w' ⟨rfl, h3, c⟩
  exact ⟨rfl, DevUp.next hc h2 h3 c (by simp [Value.ownBlock])⟩
theorem up_crash (w0 w : World) (D : Nat) (d : Dev) (keep : Nat) (torn bytes : Int) (h : DevUp w0 w D d) (hm : d.waits.length ≤ 1000000) :
    Calls Try.prog 28 #[.pointer (some ⟨D, 0, none⟩), .int .u64 keep, .int .i64 torn, .int .i64 bytes] w fun e w' => e = .returned (.tuple #[]) ∧ DevUp w0 w' D { d with l := crashTo keep torn bytes d.l d.waits d.waits.length, waits := [], down := true, left := 0 } := by
  obtain ⟨hc, lv, wv, h1, h2⟩ := h
  refine (crash_ok w D lv wv d keep torn bytes h1 hm).mono ?_
  rintro e w' ⟨rfl, h3, c⟩
  exact ⟨rfl, DevUp.next hc h2 h3 c (by simp [Value.ownBlock])⟩
theorem up_up (w0 w : World) (D : Nat) (d : Dev) (h : DevUp w0 w D d) :
    Calls Try.prog 29 #[.pointer (some ⟨D, 0, none⟩)] w fun e w' => e = .returned (.tuple #[]) ∧ DevUp w0 w' D { d with down := false, left := 0 } := by
  obtain ⟨hc, lv, wv, h1, h2⟩ := h
  refine (up_any w D lv wv d h1).mono ?_
  rintro e w' ⟨rfl, h3, c⟩
  exact ⟨rfl, DevUp.next hc h2 h3 (c.mono (fun k _ hk => .inl hk)) (fun k hk => .inl hk)⟩
theorem up_read (w0 w : World) (D : Nat) (d : Dev) (lo n : Nat) (h : DevUp w0 w D d) (hd : d.down = false) (hr : lo + n ≤ d.l.length) (hm : d.waits.length ≤ 1000000) :
    Calls Try.prog 81 #[.pointer (some ⟨D, 0, none⟩), .int .i64 lo, .int .i64 n] w fun e w' => ∃ v', e = .returned (.tuple #[v', .int .i64 0]) ∧ OB w' v' (readOf d.l d.waits lo n).flatten ∧ DevUp w0 w' D d ∧ Chg (fun _ => False) w w' := by
  obtain ⟨hc, lv, wv, h1, h2⟩ := h
  refine (read_ok w D lv wv d lo n h1 hd hr hm).mono ?_
  rintro e w' ⟨v', rfl, h3, c, _⟩
  exact ⟨v', rfl, h3, DevUp.kept ⟨hc, lv, wv, h1, h2⟩ c, c⟩
theorem up_image (w0 w : World) (D : Nat) (d : Dev) (h : DevUp w0 w D d) :
    Calls Try.prog 43 #[.pointer (some ⟨D, 0, none⟩)] w fun e w' => ∃ v', e = .returned v' ∧ OB w' v' d.l.flatten ∧ DevUp w0 w' D d ∧ Chg (fun _ => False) w w' := by
  obtain ⟨hc, lv, wv, h1, h2⟩ := h
  refine (image_any w D lv wv d h1).mono ?_
  rintro e w' ⟨v', rfl, h3, c, _⟩
  exact ⟨v', rfl, h3, DevUp.kept ⟨hc, lv, wv, h1, h2⟩ c, c⟩
end Go.Proofs.Ytjhkhdockiocgaa
