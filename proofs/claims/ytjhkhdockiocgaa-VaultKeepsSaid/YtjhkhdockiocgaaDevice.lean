/- Contracts of package device. -/
import Derived.Test.YtjhkhdockiocgaaOctet
import Derived.Test.YtjhkhdockiocgaaArr
namespace Go.Proofs.Ytjhkhdockiocgaa
open Go.RowKit Go.Cat

theorem Try.infoSec : (Try.prog.info? 183).map (fun i => (i.zero, i.size, i.bytes)) = some (some (.agg (zeroRow 64)), 64, 64) := by kernel_rfl
theorem Try.infoWri : (Try.prog.info? 185).map (fun i => (i.zero, i.size, i.bytes)) = some (some (.agg Try.zeroCells185), 65, 72) := by kernel_rfl

/-- A device as it is told. -/
structure Dev where
  l : List (List UInt8)
  waits : List (Nat × List UInt8)
  down : Bool
  left : Nat
  keep : Nat
  torn : Int
  bytes : Int
def wcells (x : Nat × List UInt8) : List Value := .int .i64 (x.1 : Int) :: bs x.2
structure DevIs (w : World) (D : Nat) (lv wv : Value) (d : Dev) : Prop where
  heap : ∃ T, w.heap[D]? = some (.cells #[lv, wv, .bool d.down, .int .i64 d.left, .int .u64 d.keep, .int .i64 d.torn, .int .i64 d.bytes] T (0, 0))
  ownL : Owns w 64 lv d.l.length (d.l.flatMap bs)
  ownW : Owns w 65 wv d.waits.length (d.waits.flatMap wcells)
  apL : ∀ k, lv.ownBlock = some k → k ≠ D
  apW : ∀ k, wv.ownBlock = some k → k ≠ D ∧ lv.ownBlock ≠ some k
  len : ∀ x ∈ d.l, x.length = 64
  wait : ∀ x ∈ d.waits, x.2.length = 64 ∧ x.1 < d.l.length
  many : d.l.length ≤ 8192
def foot (D : Nat) (lv wv : Value) (k : Nat) : Prop := k = D ∨ lv.ownBlock = some k ∨ wv.ownBlock = some k
/-- A device, all of whose memory is of S. -/
def DevAt (w : World) (S : Nat → Prop) (D : Nat) (d : Dev) : Prop := ∃ lv wv, DevIs w D lv wv d ∧ ∀ k, foot D lv wv k → S k
theorem DevIs.kept {w w' : World} {D : Nat} {lv wv : Value} {d : Dev} (h : DevIs w D lv wv d) {S : Nat → Prop} (ht : Chg S w w') (hs : ∀ k, foot D lv wv k → ¬ S k) : DevIs w' D lv wv d := by
  obtain ⟨T, hb⟩ := h.heap
  have hD := (Array.getElem?_eq_some_iff.1 hb).1
  exact ⟨⟨T, by rw [ht.block D hD (hs D (.inl rfl))]; exact hb⟩, h.ownL.kept ht (fun k hk => hs k (.inr (.inl hk))), h.ownW.kept ht (fun k hk => hs k (.inr (.inr hk))), h.apL, h.apW, h.len, h.wait, h.many⟩

theorem bs64 {l : List (List UInt8)} (h : ∀ x ∈ l, x.length = 64) : ∀ x ∈ l, (bs x).length = 64 := fun x hx => by rw [bs_length]; exact h x hx
theorem bs_flatten (l : List (List UInt8)) : l.flatMap bs = bs l.flatten := by
  induction l with
  | nil => rfl
  | cons x l ih => simp only [List.flatMap_cons, List.flatten_cons, bs_append, ih]

theorem zeroRow_at (n j : Nat) (h : j < n) : (zeroRow n)[j]? = some (.int .u8 0) := by
  simp only [zeroRow, madeCells, Array.getElem?_map, Array.getElem?_range, h, if_true, Option.map_some]
  congr 1
  have : j % (#[Value.int .u8 0] : Array Value).size = 0 := Nat.mod_one j
  rw [this]; rfl
theorem owns_zeros (w : World) (n : Nat) (T : TypeId) (hn : n ≤ maxLen) : Owns (w.alloc (.cells (madeCells (zeroRow 64) (n * 64)) T)) 64 (.slice (some ⟨w.heap.size, 0, none⟩) n n) n ((List.replicate n (zb 64)).flatMap bs) := by
  have hall : ∀ x ∈ List.replicate n (zb 64), (bs x).length = 64 := fun x hx => by rw [(List.mem_replicate.1 hx).2]; simp
  have hlen := rows_len (List.replicate n (zb 64)) hall
  rw [List.length_replicate] at hlen
  refine Owns.made (heap_alloc_new w _) hlen (Nat.le_refl _) hn (by simp [size_madeCells]) (fun j u hj => ?_)
  have hj' := (List.getElem?_eq_some_iff.1 hj).1
  rw [hlen] at hj'
  have hu : u = .int .u8 0 := by
    have := List.mem_of_getElem? hj
    simp only [List.mem_flatMap, List.mem_replicate] at this
    obtain ⟨x, ⟨_, rfl⟩, hx⟩ := this
    simp only [bs, zb, List.map_replicate, List.mem_replicate] at hx
    exact hx.2
  subst hu
  simp only [madeCells, Array.getElem?_map, Array.getElem?_range, hj', if_true, Option.map_some]
  congr 1
  have hs : (zeroRow 64).size = 64 := by simp [zeroRow, size_madeCells]
  rw [hs, getElem!_def, zeroRow_at 64 (j % 64) (Nat.mod_lt _ (by omega))]

set_option maxRecDepth 100000 in
set_option maxHeartbeats 1000000 in
theorem new_dev (n : Nat) (w : World) (h1 : 1 ≤ n) (h2 : n ≤ 8192) :
    Calls Try.prog 24 #[.int .i64 n] w fun e w' => ∃ D, e = .returned (.tuple #[.pointer (some ⟨D, 0, none⟩), .int .i64 0]) ∧ DevAt w' (fun k => w.heap.size ≤ k) D ⟨List.replicate n (zb 64), [], false, 0, 0, 0, 0⟩ ∧ Chg (fun _ => False) w w' := by
  obtain ⟨i0, hi, hz0, hz1, hz2⟩ := info_parts Try.infoSec
  have hmk : (Instr.makeSlice 123 (.int .i64 n) (.int .i64 n)).run Try.prog w = .ok (.slice (some ⟨w.heap.size, 0, none⟩) n n) (w.alloc (.cells (madeCells (zeroRow 64) (n * 64)) 183)) := by
    have := run_make (P := Try.prog) w 123 183 i0 _ Try.underlying123 hi hz0 .i64 .i64 n n (by omega) (by omega) (by rw [hz2]; omega) (by omega)
    rw [this, hz1, Int.toNat_natCast]
    rfl
  obtain ⟨row, hrow⟩ : ∃ row, row = madeCells (zeroRow 64) (n * 64) := ⟨_, rfl⟩
  rw [← hrow] at hmk
  have HR := Lib.hid hrow
  have g1 : (n : Int) ≤ 8192 := by omega
  have g0 : ¬ (n : Int) < 1 := by omega
  clear hrow hi hz0 hz1 hz2
  go_enter Try.func24, Try.ntmps24
  go_wp2_with fail
  go_ret2
  refine ⟨_, rfl, ⟨_, _, ⟨⟨_, heap_at_new _ _ _ (by simp)⟩, ?_, Owns.nil _ _, ?_, ?_, ?_, ?_, ?_⟩, ?_⟩, ((Chg.refl _ w).alloc _).alloc _⟩
  · show Owns _ 64 _ (List.replicate n (zb 64)).length _
    rw [List.length_replicate, HR.out]
    exact (owns_zeros w n _ (by simp only [maxLen]; omega)).alloc _
  · intro k hk; simp [Value.ownBlock] at hk; simp; omega
  · intro k hk; simp [Value.ownBlock] at hk
  · intro x hx; rw [(List.mem_replicate.1 hx).2]; simp
  · intro x hx; simp at hx
  · show (List.replicate n (zb 64)).length ≤ 8192
    simpa using h2
  · intro k hk
    rcases hk with rfl | hk | hk
    · simp
    · simp [Value.ownBlock] at hk; omega
    · simp [Value.ownBlock] at hk

/-- The sectors' bytes. -/
theorem RB.sector {w : World} {g o n cap : Nat} {l : List (List UInt8)} (h : Reads w 64 (.slice (some ⟨g, o, none⟩) n cap) n (l.flatMap bs)) (hl : ∀ x ∈ l, x.length = 64) (k : Nat) (x : List UInt8) (hx : l[k]? = some x) :
    RB w (.slice (some ⟨g, o + k * 64, none⟩) 64 64) x := by
  have hxl := hl x (List.mem_of_getElem? hx)
  rcases h.2 with ⟨hv, _⟩ | ⟨g', o', c, hv, g1, g2, g3, g4⟩
  · simp at hv
  · simp only [Value.slice.injEq, Option.some.injEq, Addr.mk.injEq, true_and, and_true] at hv
    obtain ⟨⟨rfl, rfl⟩, rfl⟩ := hv
    refine ⟨by simp, .inr ⟨g, o + k * 64, 64, by rw [hxl], by omega, by simp [maxLen], g3, fun j u hj => ?_⟩⟩
    have hjl := (List.getElem?_eq_some_iff.1 hj).1
    rw [bs_length] at hjl
    rw [Nat.add_assoc]
    exact g4 _ u (by rw [rows_at l (bs64 hl) k j x hx (by omega)]; exact hj)

set_option maxRecDepth 100000 in
set_option maxHeartbeats 1000000 in
theorem dev_bytes (v : Value) (w : World) (l : List (List UInt8)) (hv : Reads w 64 v l.length (l.flatMap bs)) (hl : ∀ x ∈ l, x.length = 64) (hm : l.length ≤ 8192) :
    Calls Try.prog 88 #[v] w fun e w' => ∃ v', e = .returned v' ∧ OB w' v' l.flatten ∧ Chg (fun _ => False) w w' ∧ Fresh w v' := by
  obtain ⟨a, c, rfl⟩ := hv.form
  obtain ⟨n, hn⟩ : ∃ n, n = l.length := ⟨_, rfl⟩
  rw [← hn] at hv hm ⊢
  have HN := Lib.hid hn
  have HV := Lib.hid hv
  have HL := Lib.hid hl
  clear hn hv hl
  go_enter Try.func88, Try.ntmps88
  go_wp2_with fail
  go_loopw [3, 4, 7] (fun out _ i wr => ∃ k : Nat, k ≤ n ∧ i = .int .i64 k ∧ OB wr out (l.take k).flatten ∧ Fresh w out ∧ Chg (fun _ => False) w wr) (fun _ _ i _ => n - (intOf i).toNat)
  case atStart =>
    exact ⟨0, by omega, rfl, by simpa using OB.nil w, by simp [Fresh, Value.ownBlock], Chg.refl _ _⟩
  case round =>
    obtain ⟨k, hk, rfl, hob, hfr, hch⟩ := hrel
    by_cases hlt : k < n
    · obtain ⟨x, hx⟩ : ∃ x, l[k]? = some x := ⟨_, List.getElem?_eq_getElem (by rw [← HN.out]; exact hlt)⟩
      obtain ⟨g, o, rfl⟩ : ∃ g o, a = some ⟨g, o, none⟩ := by
        rcases HV.out.2 with ⟨hv, h0⟩ | ⟨g, o, c, hv, _⟩
        · omega
        · simp only [Value.slice.injEq] at hv; exact ⟨g, o, hv.1⟩
      have hrb := RB.sector (HV.out.kept hch (fun _ _ h => h)) HL.out k x hx
      have hlen : (l.take k).flatten.length + x.length ≤ 140737488355328 := by
        have h1 := HL.out x (List.mem_of_getElem? hx)
        have h2 : ∀ m : List (List UInt8), (∀ y ∈ m, y.length = 64) → m.flatten.length = m.length * 64 := fun m hm => by
          rw [← bs_length m.flatten, ← bs_flatten, rows_len m (bs64 hm)]
        have h3 := h2 (l.take k) (fun y hy => HL.out y (List.mem_of_mem_take hy))
        have h4 : (l.take k).length ≤ k := List.length_take_le _ _
        omega
      have HX := Lib.hid hx
      clear hx
      go_wp2_with (at_builtin; go_loud (refine wpList_app_bytes rfl _ _ 33 rfl 5 Try.underlying33 Try.info5 u3 (.slice (some ⟨g, o + k * 64, none⟩) 64 64) (l.take k).flatten x rfl rfl hob hrb hlen ?_; intro v' w3 ob3 c3 in3 nn3))
      have hf3 : Fresh w v' := fun q hq => by
        have := hch.size
        rcases in3 q hq with h | h
        · exact hfr q h
        · omega
      have hd3 : (l.take (k + 1)).flatten = (l.take k).flatten ++ x := by rw [List.take_add_one, HX.out]; simp
      rw [← hd3] at ob3
      exact ⟨⟨k + 1, by omega, rfl, ob3, hf3, hch.new c3 (fun q hq => hfr q hq)⟩, by simp only [intOf]; omega⟩
    · obtain rfl : k = n := by omega
      go_wp2_with fail
      go_ret
      rw [HN.out, List.take_length] at hob
      exact ⟨_, rfl, hob, hch, hfr⟩

set_option maxRecDepth 100000 in
theorem down_no (w : World) (D : Nat) (lv wv : Value) (d : Dev) (h : DevIs w D lv wv d) :
    Calls Try.prog 50 #[.pointer (some ⟨D, 0, none⟩)] w fun e w' => e = .returned (.bool d.down) ∧ w = w' := by
  obtain ⟨T, hb⟩ := h.heap
  have hc := cell_of_heap hb 2
  simp only [List.getElem?_toArray, List.getElem?_cons_zero, List.getElem?_cons_succ] at hc
  clear hb h
  go_enter Try.func50, Try.ntmps50
  go_wp2_with fail
  go_ret
  exact ⟨rfl, rfl⟩

set_option maxRecDepth 100000 in
theorem up_any (w : World) (D : Nat) (lv wv : Value) (d : Dev) (h : DevIs w D lv wv d) :
    Calls Try.prog 29 #[.pointer (some ⟨D, 0, none⟩)] w fun e w' => e = .returned (.tuple #[]) ∧ DevIs w' D lv wv { d with down := false, left := 0 } ∧ Chg (fun k => k = D) w w' := by
  obtain ⟨T, hb⟩ := h.heap
  have hc0 := cell_of_heap hb 2
  have hc1 := cell_of_heap hb 3
  have hf := frozen_of_heap hb
  simp only [List.getElem?_toArray, List.getElem?_cons_zero, List.getElem?_cons_succ] at hc0 hc1
  have HB := Lib.hid hb
  have H := Lib.hid h
  clear hb h
  go_enter Try.func29, Try.ntmps29
  go_wp2_with fail
  go_end0
  have hc : Chg (fun k => k = D) w ((w.setCell ⟨D, 2, none⟩ (.bool false)).setCell ⟨D, 3, none⟩ (.int .i64 0)) := ((Chg.refl (fun k => k = D) w).setCell (p := ⟨D, 2, none⟩) (fun _ => rfl) _).setCell (p := ⟨D, 3, none⟩) (fun _ => rfl) _
  exact ⟨rfl, ⟨⟨T, Cat.heap_setCell_same (Cat.heap_setCell_same HB.out 2 _) 3 _⟩, H.out.ownL.kept hc (fun k hk => H.out.apL k hk), H.out.ownW.kept hc (fun k hk => (H.out.apW k hk).1), H.out.apL, H.out.apW, H.out.len, H.out.wait, H.out.many⟩, hc⟩

theorem zero_wri : Try.zeroCells185 = (wcells (0, zb 64)).toArray := by kernel_rfl

def pad (b : List UInt8) : List UInt8 := b ++ List.replicate (64 - b.length) 0
theorem pad_length {b : List UInt8} (h : b.length ≤ 64) : (pad b).length = 64 := by simp [pad]; omega

theorem write_end {w w3 : World} {D : Nat} {lv wv wv' : Value} {d : Dev} {T : TypeId} {at_ : Nat} {b : List UInt8} {c1 : List Value} (h : DevIs w D lv wv d)
    (hh : w.heap[D]? = some (.cells #[lv, wv, .bool d.down, .int .i64 d.left, .int .u64 d.keep, .int .i64 d.torn, .int .i64 d.bytes] T (0, 0))) (hc : c1 = wcells (at_, pad b)) (hb : b.length ≤ 64) (ha : at_ < d.l.length)
    (kk : Chg (fun k => wv.ownBlock = some k) w w3) (own3 : Owns w3 65 wv' (d.waits.length + 1) (d.waits.flatMap wcells ++ c1)) (hin : ∀ k, wv'.ownBlock = some k → wv.ownBlock = some k ∨ w.heap.size ≤ k) :
    ∃ wv'', DevIs (w3.setCell ⟨D, 1, none⟩ wv') D lv wv'' { d with waits := d.waits ++ [(at_, pad b)] } ∧ Chg (foot D lv wv) w (w3.setCell ⟨D, 1, none⟩ wv') ∧ ∀ k, wv''.ownBlock = some k → wv.ownBlock = some k ∨ w.heap.size ≤ k := by
  have hD : ¬ wv.ownBlock = some D := fun h' => (h.apW _ h').1 rfl
  have hDl := (Array.getElem?_eq_some_iff.1 hh).1
  have c4 : Chg (fun k => k = D) w3 (w3.setCell ⟨D, 1, none⟩ wv') := (Chg.refl (fun k => k = D) w3).setCell (p := ⟨D, 1, none⟩) (fun _ => rfl) _
  have hne : ∀ k, wv'.ownBlock = some k → k ≠ D ∧ lv.ownBlock ≠ some k := fun k hk => by
    rcases hin k hk with h1 | h1
    · exact h.apW k h1
    · exact ⟨by omega, fun h2 => by have := h.ownL.lt k h2; omega⟩
  refine ⟨wv', ⟨⟨T, Cat.heap_setCell_same (kk.heap hh hD) 1 _⟩, (h.ownL.kept kk (fun k hk hw => (h.apW k hw).2 hk)).kept c4 (fun k hk => h.apL k hk), ?_, h.apL, hne, h.len, ?_, h.many⟩, ?_, hin⟩
  · show Owns _ 65 wv' (d.waits ++ [(at_, pad b)]).length ((d.waits ++ [(at_, pad b)]).flatMap wcells)
    rw [List.length_append, List.flatMap_append]
    subst hc
    simpa using own3.kept c4 (fun k hk => (hne k hk).1)
  · intro x hx
    rcases List.mem_append.1 hx with hx | hx
    · exact h.wait x hx
    · obtain rfl : x = (at_, pad b) := by simpa using hx
      exact ⟨pad_length hb, ha⟩
  · exact (kk.mono (fun k _ hk => .inr (.inr hk))).trans (c4.mono (fun k _ hk => .inl hk))

set_option maxRecDepth 100000 in
set_option maxHeartbeats 1000000 in
theorem write_ok (w : World) (D : Nat) (lv wv v : Value) (d : Dev) (at_ : Nat) (b : List UInt8) (h : DevIs w D lv wv d) (hv : RBz w v b) (hd : d.down = false) (hl : d.left = 0) (ha : at_ < d.l.length) (hb : b.length ≤ 64) (hm : d.waits.length ≤ 1000000) :
    Calls Try.prog 79 #[.pointer (some ⟨D, 0, none⟩), .int .i64 at_, v] w fun e w' => e = .returned (.int .i64 0) ∧ ∃ wv', DevIs w' D lv wv' { d with waits := d.waits ++ [(at_, pad b)] } ∧ Chg (foot D lv wv) w w' ∧ ∀ k, wv'.ownBlock = some k → wv.ownBlock = some k ∨ w.heap.size ≤ k := by
  obtain ⟨va, vc, rfl⟩ := hv.form
  obtain ⟨T, hh⟩ := h.heap
  obtain ⟨la, lc, rfl⟩ := h.ownL.form
  have hc0 := cell_of_heap hh 0
  have hc1 := cell_of_heap hh 1
  have hc3 := cell_of_heap hh 3
  have hf := frozen_of_heap hh
  rw [hl] at hc3
  simp only [List.getElem?_toArray, List.getElem?_cons_zero, List.getElem?_cons_succ] at hc0 hc1 hc3
  have ha1 : (at_ : Int) < d.l.length := by omega
  have hb1 : (b.length : Int) ≤ 64 := by omega
  have h8 := h.many
  have HB := Lib.hid hh
  have H := Lib.hid h
  have HV := Lib.hid hv
  have HD := Lib.hid hd
  have HL := Lib.hid hl
  have hn0 : ¬ (at_ : Int) < 0 := by omega
  have hn1 : ¬ d.l.length ≤ at_ := by omega
  have hz : Try.zeroCells185.setIfInBounds 0 (.int .i64 at_) = (wcells (at_, zb 64)).toArray := by rw [zero_wri]; rfl
  have hsc : ∀ w : World, (Instr.storeAt 185 (.pointer (some ⟨w.heap.size, 0, none⟩)) (.agg (wcells (at_, zb 64)).toArray)).run Try.prog (w.alloc (.cells Try.zeroCells185 185)) = .ok () (w.alloc (.cells (wcells (at_, zb 64)).toArray 185)) := fun w =>
    run_storeAt_new w _ _ _ (by obtain ⟨i0, hi, hz0, hz1, hz2⟩ := info_parts Try.infoWri; rw [hi]; simp [hz1, wcells]) (by rw [zero_wri]; simp [wcells]) (by simp [wcells, bs, zb, Value.oneCell'])
  obtain ⟨c0, hc0e⟩ : ∃ c, c = wcells (at_, zb 64) := ⟨_, rfl⟩
  rw [← hc0e] at hz hsc
  have hcl : c0.length = 65 := by subst hc0e; simp [wcells]
  obtain ⟨c1, hc1e⟩ : ∃ c, c = wcells (at_, pad b) := ⟨_, rfl⟩
  have hcp : (Builtin.copy_ #[33, 33] 3 #[.slice (some ⟨w.heap.size, 1, none⟩) 64 64, .slice va b.length vc]).run Try.prog (w.alloc (.cells c0.toArray 185)) = .ok (.int .i64 b.length) (w.alloc (.cells c1.toArray 185)) := by
    have hcell : ∀ j, j < b.length → (w.alloc (.cells c0.toArray 185)).cell? ⟨w.heap.size, 1 + j, none⟩ = c0[1 + j]? := fun j _ => by rw [World.cell?_alloc_new]; simp
    have := run_copy_rb (P := Try.prog) (w.alloc (.cells c0.toArray 185)) 33 33 3 5 Try.underlying33 (by kernel_rfl) w.heap.size 1 64 64 va b.length vc b (hv.alloc _) b.length (by omega)
      (fun j hj => by rw [hcell j hj]; simp; omega) (fun j hj => frozen_of_heap (heap_at_new _ _ _ rfl) _)
    rw [this, List.take_length, setCells_alloc _ _ _ _ _ (by simp; omega)]
    have e : c0.take 1 ++ bs b ++ c0.drop (1 + (bs b).length) = c1 := by
      subst hc0e hc1e
      have e64 : zb 64 = List.replicate b.length 0 ++ List.replicate (64 - b.length) 0 := by rw [List.replicate_append_replicate]; simp only [zb]; congr 1; omega
      simp only [wcells, List.take_succ_cons, List.take_zero, bs_length]
      rw [show 1 + b.length = b.length + 1 by omega, List.drop_succ_cons, e64, bs_append, List.drop_left' (by simp), pad, bs_append]; rfl
    rw [e]; rfl
  have hcl1 : c1.length = 65 := by subst hc1e; simp [wcells, pad_length hb]
  have HC1 := Lib.hid hc1e
  clear hc1e
  have HC0 := Lib.hid hc0e
  clear hc0e
  clear hh h hv hl hd
  go_enter Try.func79, Try.ntmps79
  go_wp2_with (first | (go_at_call 50; refine (down_no w D _ _ d H.out).mono ?_; rintro e w1 ⟨rfl, rfl⟩; rw [HD.out]) | (refine wpList_store rfl 185 _ _ rfl _ _ _ rfl rfl (hsc w) ?_))
  obtain ⟨W1, hW1⟩ : ∃ W, W = w.alloc (.cells c1.toArray 185) := ⟨_, rfl⟩
  rw [← hW1]
  have hN1 : W1.heap[w.heap.size]? = some (.cells c1.toArray 185 (0, 0)) := by rw [hW1]; exact heap_at_new _ _ _ rfl
  have cN : ∀ (j : Nat) (u : Value), c1[j]? = some u → W1.cell? ⟨w.heap.size, 0 + j, none⟩ = some u := fun j u hj => by rw [Nat.zero_add, cell_of_heap hN1]; simpa using hj
  have k1 : Chg (fun _ => False) w W1 := by rw [hW1]; exact (Chg.refl _ w).alloc _
  have q1 : W1.cell? ⟨D, 1, none⟩ = some wv := k1.cell hc1 (fun h => h)
  have q1a : (W1.alloc (.cells c1.toArray 185)).cell? ⟨D, 1, none⟩ = some wv := ((Chg.refl (fun _ => False) W1).alloc _).cell q1 (fun h => h)
  have hld : ∀ w' : World, Chg (fun k => k = D ∨ wv.ownBlock = some k) W1.drew w' → (Instr.loadAt 185 (.pointer (some ⟨w.heap.size, 0, none⟩))).run Try.prog w' = .ok (.agg c1.toArray) w' := fun w' hw' =>
    run_loadAt_agg w' _ _ _ _ c1 Try.underlying185 rfl (by obtain ⟨i0, hi, hz0, hz1, hz2⟩ := info_parts Try.infoWri; rw [hi, hcl1]; simp [hz1])
      (fun j u hj => hw'.cell (cN j u hj) (fun h => by
        rcases h with h | h
        · have h : w.heap.size = D := h
          have := (Array.getElem?_eq_some_iff.1 HB.out).1; omega
        · have h : wv.ownBlock = some w.heap.size := h
          have := H.out.ownW.lt _ h; omega))
  have HC := Lib.hid cN
  have HW := Lib.hid hW1
  have HN1 := Lib.hid hN1
  have HLD := Lib.hid hld
  have HO : Hid (Owns W1 65 wv d.waits.length (d.waits.flatMap wcells)) := H.out.ownW.kept k1 (fun _ _ h => h)
  have hone : ∀ u ∈ c1, u.oneCell' = true := by rw [HC1.out]; intro u hu; rcases List.mem_cons.1 hu with rfl | hu; rfl; exact bs_one _ u hu
  have hmx : d.waits.length + 1 ≤ maxLen := by simp only [maxLen]; omega
  have hrd : Reads (W1.drew.alloc (.cells c1.toArray 185)) 65 (.slice (some ⟨W1.drew.heap.size, 0, none⟩) 1 1) 1 c1 := by
    have := Reads.one W1.drew c1 185; rw [hcl1] at this; exact this
  clear cN hW1 hN1 hld
  refine wpT.begin (fun k => k = D ∨ wv.ownBlock = some k) 11 (by kernel_rfl) rfl ?_
  refine wpT.take 0 rfl (by kernel_rfl) (fun _ _ _ h => h) rfl (fun w' hw' => by go_simp <;> with_reducible rfl) ?_
  simp only [Act.put, List.setIfInBounds_toArray, List.set_cons_zero, List.set_cons_succ]
  refine wpT.take 1 rfl (by kernel_rfl) (fun _ _ _ h => h) rfl (fun w' hw' => by go_simp <;> with_reducible rfl) ?_
  simp only [Act.put, List.setIfInBounds_toArray, List.set_cons_zero, List.set_cons_succ]
  refine wpT.take 2 rfl (by kernel_rfl) (fun _ _ _ h => h) rfl (fun w' hw' => by go_simp <;> with_reducible rfl) ?_
  simp only [Act.put, List.setIfInBounds_toArray, List.set_cons_zero, List.set_cons_succ]
  refine wpT.take 3 rfl (by kernel_rfl) (fun _ _ _ h => h) rfl (fun w' hw' => by go_simp <;> with_reducible rfl) ?_
  simp only [Act.put, List.setIfInBounds_toArray, List.set_cons_zero, List.set_cons_succ]
  refine wpT.take 5 rfl (by kernel_rfl) (fun _ _ _ h => h) rfl (fun w' hw' => exec_load _ _ _ _ rfl rfl (HLD.out w' hw')) ?_
  simp only [Act.put, List.setIfInBounds_toArray, List.set_cons_zero, List.set_cons_succ]
  refine wpT.both 4 6 rfl rfl (by kernel_rfl) rfl rfl (fun K hK => ?_) (fun K hK => ?_)
  · refine wp_run wv W1.drew (by go_simp <;> with_reducible rfl) ?_
    refine hK _ _ (Chg.refl _ _) ?_
    simp only [Act.put, List.setIfInBounds_toArray, List.set_cons_zero, List.set_cons_succ]
    refine wpT.call 6 rfl (by kernel_rfl) rfl (fun K hK => ?_)
    refine wp_run _ _ (exec_buildSlice _ _ _ _ _ _ _ rfl rfl (run_buildSlice_one W1.drew _ _ _ _ _ Try.underlying124 Try.infoWri c1 hcl1 (by omega) (by omega))) ?_
    refine hK _ _ ((Chg.refl _ _).alloc _) ?_
    simp only [Act.put, List.setIfInBounds_toArray, List.set_cons_zero, List.set_cons_succ]
    refine wpT.call 7 rfl (by kernel_rfl) rfl (fun K hK => ?_)
    refine wp_app _ _ 124 rfl 185 _ 65 72 Try.underlying124 Try.infoWri Try.zeroCells185_size wv d.waits.length (d.waits.flatMap wcells) rfl (Owns.alloc (Owns.drew HO.out) _) _ 1 c1 rfl hrd hone hmx (by omega) ?_
    intro wv' w3 own3 c3 in3 _
    refine hK _ _ (c3.mono (fun k _ hk => .inr hk)) ?_
    simp only [Act.put, List.setIfInBounds_toArray, List.set_cons_zero, List.set_cons_succ]
    refine wpT.take 8 rfl (by kernel_rfl) (fun _ _ _ h => h) rfl (fun w' hw' => by go_simp <;> with_reducible rfl) ?_
    simp only [Act.put, List.setIfInBounds_toArray, List.set_cons_zero, List.set_cons_succ]
    refine wpT.take 9 rfl (by kernel_rfl) (fun _ _ _ h => h) rfl (fun w' hw' => by go_simp <;> with_reducible rfl) ?_
    simp only [Act.put, List.setIfInBounds_toArray, List.set_cons_zero, List.set_cons_succ]
    have kk : Chg (fun k => wv.ownBlock = some k) w w3 := (((k1.drew.alloc _).mono (fun _ _ h => h.elim)).trans c3)
    have hD : ¬ wv.ownBlock = some D := fun h => (H.out.apW _ h).1 rfl
    obtain ⟨va', vc', rfl⟩ := own3.form
    have q31 : w3.cell? ⟨D, 1, none⟩ = some wv := kk.cell hc1 hD
    have q33 : w3.cell? ⟨D, 3, none⟩ = some (.int .i64 0) := kk.cell hc3 hD
    have q3f : w3.frozen? ⟨D, 1, none⟩ = false := frozen_of_heap (kk.heap HB.out hD) 1
    have HI := Lib.hid in3
    have HO3 := Lib.hid own3
    clear in3 own3
    refine wpT.call 10 rfl (by kernel_rfl) rfl (fun K hK => ?_)
    go_wp2_with fail
    refine hK _ _ ((Chg.refl (fun k => k = D ∨ wv.ownBlock = some k) w3).setCell (p := ⟨D, 1, none⟩) (fun _ => .inl rfl) _) ?_
    refine wpT.done (by kernel_rfl) ?_
    clear hK
    go_wp2_with fail
    go_ret
    refine ⟨rfl, ?_⟩
    exact write_end H.out HB.out HC1.out hb ha kk HO3.out (fun k hk => by
      rcases HI.out k hk with h | h
      · exact .inl h
      · exact .inr (by have := k1.size; simp at h; omega))
  · refine wp_run _ _ (exec_buildSlice _ _ _ _ _ _ _ rfl rfl (run_buildSlice_one W1.drew _ _ _ _ _ Try.underlying124 Try.infoWri c1 hcl1 (by omega) (by omega))) ?_
    refine hK _ _ ((Chg.refl _ _).alloc _) ?_
    simp only [Act.put, List.setIfInBounds_toArray, List.set_cons_zero, List.set_cons_succ]
    refine wpT.call 4 rfl (by kernel_rfl) rfl (fun K hK => ?_)
    refine wp_run wv (W1.drew.alloc _) (by go_simp <;> with_reducible rfl) ?_
    refine hK _ _ (Chg.refl _ _) ?_
    simp only [Act.put, List.setIfInBounds_toArray, List.set_cons_zero, List.set_cons_succ]
    refine wpT.call 7 rfl (by kernel_rfl) rfl (fun K hK => ?_)
    refine wp_app _ _ 124 rfl 185 _ 65 72 Try.underlying124 Try.infoWri Try.zeroCells185_size wv d.waits.length (d.waits.flatMap wcells) rfl (Owns.alloc (Owns.drew HO.out) _) _ 1 c1 rfl hrd hone hmx (by omega) ?_
    intro wv' w3 own3 c3 in3 _
    refine hK _ _ (c3.mono (fun k _ hk => .inr hk)) ?_
    simp only [Act.put, List.setIfInBounds_toArray, List.set_cons_zero, List.set_cons_succ]
    refine wpT.take 8 rfl (by kernel_rfl) (fun _ _ _ h => h) rfl (fun w' hw' => by go_simp <;> with_reducible rfl) ?_
    simp only [Act.put, List.setIfInBounds_toArray, List.set_cons_zero, List.set_cons_succ]
    refine wpT.take 9 rfl (by kernel_rfl) (fun _ _ _ h => h) rfl (fun w' hw' => by go_simp <;> with_reducible rfl) ?_
    simp only [Act.put, List.setIfInBounds_toArray, List.set_cons_zero, List.set_cons_succ]
    have kk : Chg (fun k => wv.ownBlock = some k) w w3 := (((k1.drew.alloc _).mono (fun _ _ h => h.elim)).trans c3)
    have hD : ¬ wv.ownBlock = some D := fun h => (H.out.apW _ h).1 rfl
    obtain ⟨va', vc', rfl⟩ := own3.form
    have q31 : w3.cell? ⟨D, 1, none⟩ = some wv := kk.cell hc1 hD
    have q33 : w3.cell? ⟨D, 3, none⟩ = some (.int .i64 0) := kk.cell hc3 hD
    have q3f : w3.frozen? ⟨D, 1, none⟩ = false := frozen_of_heap (kk.heap HB.out hD) 1
    have HI := Lib.hid in3
    have HO3 := Lib.hid own3
    clear in3 own3
    refine wpT.call 10 rfl (by kernel_rfl) rfl (fun K hK => ?_)
    go_wp2_with fail
    refine hK _ _ ((Chg.refl (fun k => k = D ∨ wv.ownBlock = some k) w3).setCell (p := ⟨D, 1, none⟩) (fun _ => .inl rfl) _) ?_
    refine wpT.done (by kernel_rfl) ?_
    clear hK
    go_wp2_with fail
    go_ret
    refine ⟨rfl, ?_⟩
    exact write_end H.out HB.out HC1.out hb ha kk HO3.out (fun k hk => by
      rcases HI.out k hk with h | h
      · exact .inl h
      · exact .inr (by have := k1.size; simp at h; omega))
end Go.Proofs.Ytjhkhdockiocgaa
