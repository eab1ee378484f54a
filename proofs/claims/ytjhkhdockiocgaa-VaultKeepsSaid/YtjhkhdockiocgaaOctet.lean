/- Contracts of package octet (and nums.Width). -/
import Derived.Test.YtjhkhdockiocgaaProg
import Derived.Test.YtjhkhdockiocgaaK
import Derived.Test.YtjhkhdockiocgaaOctetPure
import Derived.WalkSpells
import Derived.WalkLawsBesides
import Derived.Handy
import Derived.Lib.SliceRun
namespace Go.Proofs.Ytjhkhdockiocgaa
open Go.RowKit Go.Cat

theorem ret_int {k : IntKind} {a b : Int} (h : a = b) : Ending.returned (.int k a) = .returned (.int k b) := by rw [h]
def isWidth (n : Int) : Bool := decide (n = 1) || (decide (n = 2) || (decide (n = 4) || decide (n = 8)))

set_option maxHeartbeats 400000 in
theorem width_yes (n : Int) (w : World) (h : n = 1 ∨ n = 2 ∨ n = 4 ∨ n = 8) :
    Calls Try.prog 98 #[.int .i64 n] w fun e w' => e = .returned (.bool true) ∧ w = w' := by
  rcases h with rfl | rfl | rfl | rfl
  all_goals
    go_enter Try.func98, Try.ntmps98
    go_wp2
    go_ret
    exact ⟨rfl, rfl⟩

set_option maxHeartbeats 400000 in
theorem width_no (n : Int) (w : World) (h1 : ¬ n = 1) (h2 : ¬ n = 2) (h4 : ¬ n = 4) (h8 : ¬ n = 8) :
    Calls Try.prog 98 #[.int .i64 n] w fun e w' => e = .returned (.bool false) ∧ w = w' := by
  have e1 : ((n : Int) == 1) = false := by simpa using h1
  have e2 : ((n : Int) == 2) = false := by simpa using h2
  have e4 : ((n : Int) == 4) = false := by simpa using h4
  have e8 : ((n : Int) == 8) = false := by simpa using h8
  go_enter Try.func98, Try.ntmps98
  go_wp2
  go_ret
  exact ⟨rfl, rfl⟩

theorem wix0 (w : World) : (Instr.index 201 (.agg #[.int .u64 32, .int .u64 16, .int .u64 8, .int .u64 4, .int .u64 2, .int .u64 1]) (.int .i64 0)).run Try.prog w = .ok (.int .u64 32) w := by kernel_rfl
theorem wix1 (w : World) : (Instr.index 201 (.agg #[.int .u64 32, .int .u64 16, .int .u64 8, .int .u64 4, .int .u64 2, .int .u64 1]) (.int .i64 1)).run Try.prog w = .ok (.int .u64 16) w := by kernel_rfl
theorem wix2 (w : World) : (Instr.index 201 (.agg #[.int .u64 32, .int .u64 16, .int .u64 8, .int .u64 4, .int .u64 2, .int .u64 1]) (.int .i64 2)).run Try.prog w = .ok (.int .u64 8) w := by kernel_rfl
theorem wix3 (w : World) : (Instr.index 201 (.agg #[.int .u64 32, .int .u64 16, .int .u64 8, .int .u64 4, .int .u64 2, .int .u64 1]) (.int .i64 3)).run Try.prog w = .ok (.int .u64 4) w := by kernel_rfl
theorem wix4 (w : World) : (Instr.index 201 (.agg #[.int .u64 32, .int .u64 16, .int .u64 8, .int .u64 4, .int .u64 2, .int .u64 1]) (.int .i64 4)).run Try.prog w = .ok (.int .u64 2) w := by kernel_rfl
theorem wix5 (w : World) : (Instr.index 201 (.agg #[.int .u64 32, .int .u64 16, .int .u64 8, .int .u64 4, .int .u64 2, .int .u64 1]) (.int .i64 5)).run Try.prog w = .ok (.int .u64 1) w := by kernel_rfl

set_option maxRecDepth 100000 in
set_option maxHeartbeats 1000000 in
theorem bitw_any (x : Int) (w : World) (h0 : 0 ≤ x) (h1 : x < 18446744073709551616) :
    Calls Try.prog 99 #[.int .u64 x] w fun e w' => e = .returned (.int .i64 (bitw x.toNat)) ∧ w = w' := by
  go_enter Try.func99, Try.ntmps99
  go_wp2
  go_loop [0, 3, 7] (fun a n i => ∃ (k y : Nat) (m : Int), k ≤ 6 ∧ a = .int .u64 y ∧ n = .int .i64 m ∧ i = .int .i64 k ∧ y < stepTop k ∧ 0 ≤ m ∧ m ≤ 64 ∧ Hid (m + bitw y = (bitw x.toNat : Nat))) (fun _ _ i => 6 - (intOf i).toNat)
  case atStart =>
    refine ⟨0, x.toNat, 0, by omega, ?_, rfl, rfl, by simp only [stepTop]; omega, by omega, by omega, by show _ = _; omega⟩
    rw [Int.toNat_of_nonneg h0]
  case round =>
    obtain ⟨k, y, m, hk, rfl, rfl, rfl, hy, hm0, hm1, hm⟩ := hrel
    have hk' : k = 0 ∨ k = 1 ∨ k = 2 ∨ k = 3 ∨ k = 4 ∨ k = 5 ∨ k = 6 := by omega
    rcases hk' with rfl | rfl | rfl | rfl | rfl | rfl | rfl
    all_goals (simp only [stepTop] at hy)
    · have ix := wix0
      go_wp2
      · have hs := width_step' y 32 4294967296 m _ rfl hm.out (by assumption) (bitw_64 _ (by omega))
        exact ⟨⟨1, y / 4294967296, m + 32, by omega, rfl, rfl, rfl, by simp only [stepTop]; omega, by omega, hs.2, hs.1⟩, by decide⟩
      · exact ⟨⟨1, y, m, by omega, rfl, rfl, rfl, by simp only [stepTop]; omega, hm0, hm1, hm⟩, by decide⟩
    · have ix := wix1
      go_wp2
      · have hs := width_step' y 16 65536 m _ rfl hm.out (by assumption) (bitw_64 _ (by omega))
        exact ⟨⟨2, y / 65536, m + 16, by omega, rfl, rfl, rfl, by simp only [stepTop]; omega, by omega, hs.2, hs.1⟩, by decide⟩
      · exact ⟨⟨2, y, m, by omega, rfl, rfl, rfl, by simp only [stepTop]; omega, hm0, hm1, hm⟩, by decide⟩
    · have ix := wix2
      go_wp2
      · have hs := width_step' y 8 256 m _ rfl hm.out (by assumption) (bitw_64 _ (by omega))
        exact ⟨⟨3, y / 256, m + 8, by omega, rfl, rfl, rfl, by simp only [stepTop]; omega, by omega, hs.2, hs.1⟩, by decide⟩
      · exact ⟨⟨3, y, m, by omega, rfl, rfl, rfl, by simp only [stepTop]; omega, hm0, hm1, hm⟩, by decide⟩
    · have ix := wix3
      go_wp2
      · have hs := width_step' y 4 16 m _ rfl hm.out (by assumption) (bitw_64 _ (by omega))
        exact ⟨⟨4, y / 16, m + 4, by omega, rfl, rfl, rfl, by simp only [stepTop]; omega, by omega, hs.2, hs.1⟩, by decide⟩
      · exact ⟨⟨4, y, m, by omega, rfl, rfl, rfl, by simp only [stepTop]; omega, hm0, hm1, hm⟩, by decide⟩
    · have ix := wix4
      go_wp2
      · have hs := width_step' y 2 4 m _ rfl hm.out (by assumption) (bitw_64 _ (by omega))
        exact ⟨⟨5, y / 4, m + 2, by omega, rfl, rfl, rfl, by simp only [stepTop]; omega, by omega, hs.2, hs.1⟩, by decide⟩
      · exact ⟨⟨5, y, m, by omega, rfl, rfl, rfl, by simp only [stepTop]; omega, hm0, hm1, hm⟩, by decide⟩
    · have ix := wix5
      go_wp2
      · have hs := width_step' y 1 2 m _ rfl hm.out (by assumption) (bitw_64 _ (by omega))
        exact ⟨⟨6, y / 2, m + 1, by omega, rfl, rfl, rfl, by simp only [stepTop]; omega, by omega, hs.2, hs.1⟩, by decide⟩
      · exact ⟨⟨6, y, m, by omega, rfl, rfl, rfl, by simp only [stepTop]; omega, hm0, hm1, hm⟩, by decide⟩
    · have hb := bitw_small y hy
      have hw := hm.out
      rw [hb] at hw
      have HW := Lib.hid (ret_int (k := .i64) hw); clear hw hb hm
      go_wp2
      go_ret
      exact ⟨HW.out, rfl⟩

theorem Try.info5 : (Try.prog.info? 5).map (fun i => (i.zero, i.size, i.bytes)) = some (some (.int .u8 0), 1, 1) := by kernel_rfl

set_option maxRecDepth 100000 in
set_option maxHeartbeats 1000000 in
theorem num_yes (x n : Int) (w : World) (S : Nat → Prop) (b : Nat) (l : List UInt8) (h0 : 0 ≤ x) (h1 : x < 18446744073709551616) (hn : n = 1 ∨ n = 2 ∨ n = 4 ∨ n = 8) (hx : x.toNat < 2 ^ (8 * n.toNat))
    (hw : WriterAt w S b l) (hl : l.length ≤ 1099511627776) :
    Calls Try.prog 65 #[.pointer (some ⟨b, 0, none⟩), .int .u64 x, .int .i64 n] w fun e w' => e = .returned (.int .i64 0) ∧ WriterAt w' (ext S w w') b (l ++ be x.toNat n.toNat) ∧ Chg S w w' := by
  have hbw : (bitw x.toNat : Int) ≤ 8 * n := by
    have := (bitw_le x.toNat (8 * n.toNat)).2 hx; omega
  have hn1 : 1 ≤ n := by omega
  have hn8 : n ≤ 8 := by omega
  have HX := Lib.hid hx; clear hx
  have HN := Lib.hid hn; clear hn
  go_enter Try.func65, Try.ntmps65
  go_wp2_with (first | (go_at_call 98; refine (width_yes _ _ HN.out).mono ?_; rintro e w' ⟨rfl, rfl⟩) | (go_at_call 99; refine (bitw_any _ _ h0 h1).mono ?_; rintro e w' ⟨rfl, rfl⟩))
  go_loopw [7] (fun i wr => ∃ (j : Nat) (l' : List UInt8), i = .int .i64 ((j : Int) - 1) ∧ (j : Int) ≤ n ∧ Hid (l' ++ be x.toNat j = l ++ be x.toNat n.toNat) ∧ WriterAt wr (ext S w wr) b l' ∧ Chg S w wr) (fun i _ => (intOf i + 1).toNat)
  case atStart =>
    refine ⟨n.toNat, l, ?_, by omega, rfl, hw.mono (fun _ h => ext_left h), Chg.refl _ _⟩
    rw [Int.toNat_of_nonneg (by omega)]
  case round =>
    obtain ⟨j, l', rfl, hj, hl', ⟨bv, T, hb, hob, hne, hSb, hSv⟩, hch⟩ := hrel
    have hc := cell_of_heap hb 0
    have hf := frozen_of_heap hb 0
    simp only [List.getElem?_toArray, List.getElem?_cons_zero] at hc
    by_cases hz : j = 0
    · subst hz
      go_wp2
      go_ret
      refine ⟨rfl, ?_, hch⟩
      have := hl'.out
      simp only [be, List.append_nil] at this
      rw [← this]
      exact ⟨bv, T, hb, hob, hne, hSb, hSv⟩
    · obtain ⟨i, rfl⟩ : ∃ i, j = i + 1 := ⟨j - 1, by omega⟩
      rw [show ((i + 1 : Nat) : Int) - 1 = (i : Int) from by omega]
      have hi1 : (i : Int) + 1 ≤ n := by omega
      have HB := Lib.hid hb
      have hx0 : 0 ≤ x / 2 ^ (8 * i) % 256 := by omega
      have hx1 : x / 2 ^ (8 * i) % 256 < 256 := by omega
      have HL := Lib.hid (num_step x l l' i n.toNat h0 hl'.out (by omega))
      clear hb hj hl'
      go_wp2_with (at_builtin; go_loud (refine wpList_app_byte rfl _ _ 33 rfl 5 Try.underlying33 Try.info5 bv l' (x / 2 ^ (8 * i) % 256) _ rfl rfl hob hx0 hx1 HL.out.1 ?_; intro v' w2 hob2 hch2 hin2 hnn2; obtain ⟨va, vc, rfl⟩ := hob2.form; have hc2 := hch2.cell hc (fun h => hne h); have hf2 := hch2.frozen (i := 0) HB.out (fun h => hne h); clear hc hf))
      obtain ⟨h3, h4⟩ := WriterAt.put hch HB.out hne hSb hSv hch2 hob2 hin2
      have e : (l' ++ [UInt8.ofNat (x / 2 ^ (8 * i) % 256).toNat]).length = l'.length + 1 := by simp
      rw [e] at h3 h4
      exact ⟨⟨i, _, rfl, by omega, HL.out.2, h3, h4⟩, by simp only [intOf]; omega⟩

theorem eqn_bytes (w : World) (a : Option Addr) (n c : Nat) : (binOp .eql 33 (.slice a n c) (.slice none 0 0)).run Try.prog w = .ok (.bool a.isNone) w := Lib.run_eql_slice_nil w _ 5 a n c 0 0 Try.underlying33

set_option maxRecDepth 100000 in
set_option maxHeartbeats 1000000 in
theorem clone_any (v : Value) (w : World) (l : List UInt8) (hv : RB w v l) (hl : l.length ≤ 140737488355328) :
    Calls Try.prog 105 #[v] w fun e w' => ∃ v', e = .returned v' ∧ OB w' v' l ∧ Chg (fun _ => False) w w' ∧ Fresh w v' := by
  have eqn := eqn_bytes
  rcases hv.2 with ⟨rfl, h0⟩ | ⟨g, o, cap, rfl, h1, h2, h3, h4⟩
  · have : l = [] := by simpa using h0
    subst this
    go_enter Try.func105, Try.ntmps105
    go_wp2
    go_ret
    exact ⟨_, rfl, OB.nil _, Chg.refl _ _, by simp [Fresh, Value.ownBlock]⟩
  · clear h4 h1 h2 h3
    have HV := Lib.hid hv; clear hv
    go_enter Try.func105, Try.ntmps105
    go_wp2_with (at_builtin; go_loud (refine wpList_app_bytes rfl _ _ 33 rfl 5 Try.underlying33 Try.info5 (.slice (some ⟨w.heap.size, 0, none⟩) 0 0) (.slice (some ⟨g, o, none⟩) l.length cap) [] l rfl rfl (OB.empty w 5) (HV.out.alloc _) (by simpa using hl) ?_; intro v' w2 hob2 hch2 hin2 hnn2))
    go_ret
    refine ⟨_, rfl, hob2, ((Chg.refl _ w).alloc _).trans' hch2 (fun k hk h => ?_), fun k hk => ?_⟩
    · simp [Value.ownBlock] at h; omega
    · rcases hin2 k hk with h | h <;> simp [Value.ownBlock] at h <;> omega
set_option maxRecDepth 100000 in
set_option maxHeartbeats 1000000 in
theorem num_arg (x n : Int) (w : World) (b : Nat) (h1 : ¬ n = 1) (h2 : ¬ n = 2) (h4 : ¬ n = 4) (h8 : ¬ n = 8) :
    Calls Try.prog 65 #[.pointer (some ⟨b, 0, none⟩), .int .u64 x, .int .i64 n] w fun e w' => e = .returned (.int .i64 1) ∧ w = w' := by
  go_enter Try.func65, Try.ntmps65
  go_wp2_with (first | (go_at_call 98; refine (width_no _ _ h1 h2 h4 h8).mono ?_; rintro e w' ⟨rfl, rfl⟩))
  go_ret
  exact ⟨rfl, rfl⟩

set_option maxRecDepth 100000 in
set_option maxHeartbeats 1000000 in
theorem num_range (x n : Int) (w : World) (b : Nat) (h0 : 0 ≤ x) (h1 : x < 18446744073709551616) (hn : n = 1 ∨ n = 2 ∨ n = 4 ∨ n = 8) (hx : ¬ x.toNat < 2 ^ (8 * n.toNat)) :
    Calls Try.prog 65 #[.pointer (some ⟨b, 0, none⟩), .int .u64 x, .int .i64 n] w fun e w' => e = .returned (.int .i64 3) ∧ w = w' := by
  have hbw : 8 * n < (bitw x.toNat : Int) := by
    have := mt (bitw_le x.toNat (8 * n.toNat)).1 hx; omega
  have hn1 : 1 ≤ n := by omega
  have hn8 : n ≤ 8 := by omega
  have HN := Lib.hid hn; clear hn hx
  go_enter Try.func65, Try.ntmps65
  go_wp2_with (first | (go_at_call 98; refine (width_yes _ _ HN.out).mono ?_; rintro e w' ⟨rfl, rfl⟩) | (go_at_call 99; refine (bitw_any _ _ h0 h1).mono ?_; rintro e w' ⟨rfl, rfl⟩))
  go_ret
  exact ⟨rfl, rfl⟩

set_option maxRecDepth 100000 in
set_option maxHeartbeats 1000000 in
theorem wint_any (x : Int) (w : World) (S : Nat → Prop) (b : Nat) (l : List UInt8) (hw : WriterAt w S b l) (hl : l.length ≤ 1099511627776) :
    Calls Try.prog 131 #[.pointer (some ⟨b, 0, none⟩), .int .i64 x] w fun e w' => e = .returned (.tuple #[]) ∧ WriterAt w' (ext S w w') b (l ++ be (x % 18446744073709551616).toNat 8) ∧ Chg S w w' := by
  go_enter Try.func131, Try.ntmps131
  go_wp2_with (first | (go_at_call 65; refine (num_yes (x % 18446744073709551616) _ _ S _ l (by omega) (by omega) (by omega) (by have := (show (2 : Nat) ^ (8 * Int.toNat 8) = 18446744073709551616 by decide); omega) hw hl).mono ?_; rintro e w' ⟨rfl, h1, h2⟩))
  go_end0
  exact ⟨rfl, h1, h2⟩

set_option maxRecDepth 100000 in
set_option maxHeartbeats 1000000 in
theorem wraw_any (v : Value) (w : World) (S : Nat → Prop) (b : Nat) (l m : List UInt8) (hw : WriterAt w S b l) (hv : RB w v m) (hl : l.length + m.length ≤ 140737488355328) :
    Calls Try.prog 111 #[.pointer (some ⟨b, 0, none⟩), v] w fun e w' => e = .returned (.tuple #[]) ∧ WriterAt w' (ext S w w') b (l ++ m) ∧ Chg S w w' := by
  obtain ⟨bv, T, hb, hob, hne, hSb, hSv⟩ := hw
  have hc := cell_of_heap hb 0
  have hf := frozen_of_heap hb 0
  simp only [List.getElem?_toArray, List.getElem?_cons_zero] at hc
  have HB := Lib.hid hb
  clear hb
  go_enter Try.func111, Try.ntmps111
  go_wp2_with (at_builtin; go_loud (refine wpList_app_bytes rfl _ _ 33 rfl 5 Try.underlying33 Try.info5 bv v l m rfl rfl hob hv hl ?_; intro v' w2 hob2 hch2 hin2 hnn2; obtain ⟨va, vc, rfl⟩ := hob2.form; have hc2 := hch2.cell hc (fun h => hne h); have hf2 := hch2.frozen (i := 0) HB.out (fun h => hne h); clear hc hf))
  go_end0
  obtain ⟨h3, h4⟩ := WriterAt.put (Chg.refl S w) HB.out hne (.inl hSb) (fun k hk => .inl (hSv k hk)) hch2 hob2 (fun k hk => by rcases hin2 k hk with h | h <;> simp_all)
  have e : (l ++ m).length = l.length + m.length := by simp
  rw [e] at h3 h4
  exact ⟨rfl, h3, h4⟩

set_option maxRecDepth 100000 in
set_option maxHeartbeats 1000000 in
theorem wbytes_any (w : World) (S : Nat → Prop) (b : Nat) (l : List UInt8) (hw : WriterAt w S b l) (hl : l.length ≤ 140737488355328) :
    Calls Try.prog 67 #[.pointer (some ⟨b, 0, none⟩)] w fun e w' => ∃ v', e = .returned v' ∧ OB w' v' l ∧ Chg (fun _ => False) w w' ∧ Fresh w v' := by
  obtain ⟨bv, T, hb, hob, hne, hSb, hSv⟩ := hw
  have hc := cell_of_heap hb 0
  simp only [List.getElem?_toArray, List.getElem?_cons_zero] at hc
  clear hb
  go_enter Try.func67, Try.ntmps67
  go_wp2_with (first | (go_at_call 105; refine (clone_any _ _ l hob.rb hl).mono ?_; rintro e w2 ⟨v', rfl, h1, h2, h3⟩))
  go_ret
  exact ⟨_, rfl, h1, h2, h3⟩

theorem make_bytes (w : World) (n : Nat) (hn : n ≤ 1099511627776) : (Instr.makeSlice 33 (.int .i64 n) (.int .i64 n)).run Try.prog w = .ok (.slice (some ⟨w.heap.size, 0, none⟩) n n) (w.alloc (.cells (zeroRow n) 5)) := by
  obtain ⟨i0, hi, hz0, hz1, hz2⟩ := info_parts Try.info5
  have := run_make (P := Try.prog) w 33 5 i0 _ Try.underlying33 hi hz0 .i64 .i64 n n (by omega) (by omega) (by rw [hz2]; omega) (by omega)
  rw [this, hz1, Int.toNat_natCast, Nat.mul_one]
  rfl
theorem slice_lohi (w : World) (a : Option Addr) (n c lo hi : Nat) (h1 : lo ≤ hi) (h2 : hi ≤ c) :
    (Instr.sliceAt 33 (.slice a n c) (some (.int .i64 lo)) (some (.int .i64 hi)) none).run Try.prog w = .ok (.slice (if c = lo then a else a.map (·.add (lo * 1))) (hi - lo) (c - lo)) w := by
  have h4 : (hi : Int) ≤ c := by omega
  simp [go_sem, Instr.sliceAt, Instr.slice, Instr.sliceBounds, h4]
  intro h; omega
theorem convb (w : World) (v : Value) (l : List UInt8) (h : RB w v l) : (convert 33 9 v).run Try.prog w = .ok (.string ⟨l.toArray⟩) w := run_string_of w _ _ 5 Try.underlying33 Try.underlying5 Try.underlying9 v l h
theorem slice_hi (w : World) (a : Option Addr) (n c hi : Nat) (h2 : hi ≤ c) :
    (Instr.sliceAt 33 (.slice a n c) none (some (.int .i64 hi)) none).run Try.prog w = .ok (.slice (if c = 0 then a else a.map (·.add (0 * 1))) hi c) w := by
  have h4 : (hi : Int) ≤ c := by omega
  simp [go_sem, Instr.sliceAt, Instr.slice, Instr.sliceBounds, h4]
end Go.Proofs.Ytjhkhdockiocgaa
