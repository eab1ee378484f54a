/- The contract of journal.Journal.Write: a record's sectors wait. -/
import Derived.Test.YtjhkhdockiocgaaJour1
import Derived.Test.YtjhkhdockiocgaaSplit
import Derived.Test.YtjhkhdockiocgaaPackAny
namespace Go.Proofs.Ytjhkhdockiocgaa
open Go.RowKit Go.Cat

/-- Sectors as writings, the first one at place b. -/
def wat : Nat → List (List UInt8) → List (Nat × List UInt8)
  | _, [] => []
  | b, x :: xs => (b, x) :: wat (b + 1) xs
theorem wat_snoc : ∀ (xs : List (List UInt8)) (b : Nat) (x : List UInt8), wat b (xs ++ [x]) = wat b xs ++ [(b + xs.length, x)]
  | [], _, _ => rfl
  | y :: xs, b, x => by
    have := wat_snoc xs (b + 1) x
    simp only [List.cons_append, wat, this, List.length_cons]
    rw [show b + 1 + xs.length = b + (xs.length + 1) by omega]
theorem wat_append : ∀ (xs ys : List (List UInt8)) (b : Nat), wat b (xs ++ ys) = wat b xs ++ wat (b + xs.length) ys
  | [], _, _ => rfl
  | y :: xs, ys, b => by
    have := wat_append xs ys (b + 1)
    simp only [List.cons_append, wat, this, List.length_cons]
    rw [show b + 1 + xs.length = b + (xs.length + 1) by omega]
theorem wat_length : ∀ (xs : List (List UInt8)) (b : Nat), (wat b xs).length = xs.length
  | [], _ => rfl
  | y :: xs, b => by simp [wat, wat_length xs]
/-- A record's sector. -/
def recSec (t p : Nat) (d : List UInt8) (i : Nat) : List UInt8 := packOf t (p + i) (decide (i + 1 = costN d.length)) ((d.drop (47 * i)).take 47)
/-- A record's sectors. -/
def recSecs (t p : Nat) (d : List UInt8) : List (List UInt8) := (List.range (costN d.length)).map (recSec t p d)
theorem recSecs_length (t p : Nat) (d : List UInt8) : (recSecs t p d).length = costN d.length := by simp [recSecs]
theorem recSecs_take (t p : Nat) (d : List UInt8) (k : Nat) (h : k < costN d.length) : (recSecs t p d).take (k + 1) = (recSecs t p d).take k ++ [recSec t p d k] := by
  rw [List.take_add_one, recSecs, List.getElem?_map, List.getElem?_range h]; rfl
theorem recSec_len (t p : Nat) (d : List UInt8) (i : Nat) : (recSec t p d i).length = 64 := pack_len (by simp; omega)
theorem pad_64 {x : List UInt8} (h : x.length = 64) : pad x = x := by simp [pad, h]
theorem JIs.at {w : World} {J D lo n turn next : Nat} (h : JIs w J D lo n turn next) (k : Nat) (v : Value) (hk : [Value.pointer (some ⟨D, 0, none⟩), .int .i64 lo, .int .i64 n, .int .u32 turn, .int .i64 next][k]? = some v) : w.cell? ⟨J, k, none⟩ = some v := by
  obtain ⟨T, hb⟩ := h.heap
  rw [cell_of_heap hb]
  simpa using hk
theorem costN_le {n : Nat} (h : n ≤ 600) : costN n ≤ 13 := by unfold costN; omega

set_option maxRecDepth 100000 in
set_option maxHeartbeats 1000000 in
theorem writej_full (w : World) (J D lo n turn next : Nat) (a : Option Addr) (m c : Nat) (hj : JIs w J D lo n turn next) (hn : n ≤ 8192) (hx : next ≤ n) (hl : m ≤ 1000000) (hf : n < next + costN m) :
    Calls Try.prog 27 #[.pointer (some ⟨J, 0, none⟩), .slice a m c] w fun e w' => e = .returned (.int .i64 6) ∧ Chg (fun _ => False) w w' := by
  have q2 := hj.at 2 _ rfl
  have q4 := hj.at 4 _ rfl
  have e1 : IntKind.i64.wrap ((n : Int) - next) = (n : Int) - next := IntWalk.i64_in _ (by omega)
  have g : (n : Int) - next < (costN m : Nat) := by omega
  have gd : decide ((costN m : Int) > (n : Int) - next) = true := decide_eq_true (by omega)
  have HC : Hid (∀ w, Calls Try.prog 37 #[.int .i64 m] w fun e w' => e = .returned (.int .i64 (costN m)) ∧ w = w') := fun w => cost_any m w (by omega)
  generalize costN m = cn at *
  clear hj hf
  go_enter Try.func27, Try.ntmps27
  go_wp2_with fail
  go_quiet ((go_at_call 37; refine Calls.quiet_of ((HC.out _).mono (fun e w' h => ⟨h.1, 0, h.2.symm⟩))))
  go_wp2_with fail
  go_ret
  exact ⟨rfl, (Chg.refl _ w).drewN _⟩

set_option maxRecDepth 100000 in
set_option maxHeartbeats 2000000 in
theorem writej_ok (w : World) (J D lo n turn next : Nat) (lv wv v : Value) (d : Dev) (l : List UInt8) (h : DevIs w D lv wv d) (hj : JIs w J D lo n turn next) (hJ : ¬ foot D lv wv J) (hv : RBz w v l) (hd : d.down = false) (hl0 : d.left = 0)
    (hin : lo + n ≤ d.l.length) (hl : l.length ≤ 600) (hfit : next + costN l.length ≤ n) (ht : turn < 4294967296) (h0 : turn ≠ 0) (hm : d.waits.length ≤ 900000) :
    Calls Try.prog 27 #[.pointer (some ⟨J, 0, none⟩), v] w fun e w' => e = .returned (.int .i64 0) ∧ ∃ wv', DevIs w' D lv wv' { d with waits := d.waits ++ wat (lo + next) (recSecs turn next l) } ∧ JIs w' J D lo n turn (next + costN l.length) ∧
      Chg (fun k => foot D lv wv k ∨ k = J) w w' ∧ (∀ k, wv'.ownBlock = some k → wv.ownBlock = some k ∨ w.heap.size ≤ k) := by
  obtain ⟨a, c, rfl⟩ := hv.form
  have hmany := h.many
  have HCe : Hid (costN l.length = max ((l.length + 46) / 47) 1) := rfl
  obtain ⟨m, hme⟩ : ∃ m, m = costN l.length := ⟨_, rfl⟩
  have hm1 : 1 ≤ m := by rw [hme, HCe.out]; omega
  have hm13 : m ≤ 13 := by rw [hme]; exact costN_le hl
  have HC : Hid (∀ w, Calls Try.prog 37 #[.int .i64 l.length] w fun e w' => e = .returned (.int .i64 m) ∧ w = w') := fun w => by rw [hme]; exact cost_any _ w (by omega)
  have HSP : Hid (∀ w, RBz w (.slice a l.length c) l → Calls Try.prog 77 #[.int .u32 turn, .int .u32 next, .slice a l.length c] w fun e w' => ∃ v' ss, e = .returned (.tuple #[v', .int .i64 0]) ∧ Sectors w w' v' ss ∧ Splits turn next l m m ss ∧ Chg (fun _ => False) w w') := fun w hz => by
    have := split_anyz turn next _ w l hz ht (by omega) hl h0 (by rw [← HCe.out, ← hme]; omega)
    rw [← HCe.out, ← hme] at this
    exact this
  rw [← hme] at hfit ⊢
  have HME := Lib.hid hme
  have e1 : IntKind.i64.wrap ((n : Int) - next) = (n : Int) - next := IntWalk.i64_in _ (by omega)
  have g : ¬ (n : Int) - next < m := by omega
  have EW : Hid (IntKind.u32.wrap (next : Int) = next) := by show _ = _; rw [IntKind.wrap_u32]; omega
  have q2 := hj.at 2 _ rfl
  have q4 := hj.at 4 _ rfl
  have HV := Lib.hid hv
  have HJ := Lib.hid hj
  have HNF := Lib.hid hJ
  have H := Lib.hid h
  have HD := Lib.hid hd
  have HL0 := Lib.hid hl0
  have hfl : ∀ k, foot D lv wv k → k < w.heap.size := fun k hk => by
    rcases hk with hk | hk | hk
    · obtain ⟨T, hb⟩ := h.heap; rw [hk]; exact (Array.getElem?_eq_some_iff.1 hb).1
    · exact h.ownL.lt k hk
    · exact h.ownW.lt k hk
  have HFL := Lib.hid hfl
  clear hme hv hj hJ h hd hl0 hfl
  go_enter Try.func27, Try.ntmps27
  go_wp2_with fail
  go_quiet ((go_at_call 37; refine Calls.quiet_of ((HC.out _).mono (fun e w' h => ⟨h.1, 0, h.2.symm⟩))))
  go_wp2_with fail
  have cq : Chg (fun _ => False) w (w.drewN nq) := (Chg.refl _ w).drewN nq
  generalize w.drewN nq = w0 at cq ⊢
  clear q2 q4 e1 g HC
  have HJ0 := Lib.hid (HJ.out.kept cq (fun h => h))
  have HV0 := Lib.hid (HV.out.same cq)
  refine wpT.begin (fun _ => False) 16 (by kernel_rfl) rfl ?_
  refine wpT.take 0 rfl (by kernel_rfl) (fun _ _ _ h => h) rfl (fun w' hw' => by go_simp <;> with_reducible rfl) ?_
  simp only [Act.put, List.setIfInBounds_toArray, List.set_cons_zero, List.set_cons_succ]
  refine wpT.take 1 rfl (by kernel_rfl) (fun _ _ _ h => h) rfl (fun w' hw' => by go_simp <;> with_reducible rfl) ?_
  simp only [Act.put, List.setIfInBounds_toArray, List.set_cons_zero, List.set_cons_succ]
  refine wpT.take 2 rfl (by kernel_rfl) (fun _ _ _ h => h) rfl (fun w' hw' => by go_simp <;> with_reducible rfl) ?_
  simp only [Act.put, List.setIfInBounds_toArray, List.set_cons_zero, List.set_cons_succ]
  refine wpT.ld 3 rfl (by kernel_rfl) (fun _ _ _ _ h => h) rfl _ _ rfl (by kernel_rfl) ⟨J, 3, none⟩ rfl _ ((HJ0.out.kept (Chg.refl (fun _ => False) w0).drew (fun h => h)).at 3 _ rfl) (fun h => h) ?_
  simp only [Act.put, List.setIfInBounds_toArray, List.set_cons_zero, List.set_cons_succ]
  refine wpT.take 4 rfl (by kernel_rfl) (fun _ _ _ h => h) rfl (fun w' hw' => by go_simp <;> with_reducible rfl) ?_
  simp only [Act.put, List.setIfInBounds_toArray, List.set_cons_zero, List.set_cons_succ]
  refine wpT.take 5 rfl (by kernel_rfl) (fun _ _ _ h => h) rfl (fun w' hw' => by go_simp <;> with_reducible rfl) ?_
  simp only [Act.put, List.setIfInBounds_toArray, List.set_cons_zero, List.set_cons_succ]
  refine wpT.take 6 rfl (by kernel_rfl) (fun _ _ _ h => h) rfl (fun w' hw' => by go_simp <;> with_reducible rfl) ?_
  simp only [Act.put, List.setIfInBounds_toArray, List.set_cons_zero, List.set_cons_succ]
  refine wpT.ld 7 rfl (by kernel_rfl) (fun _ _ _ _ h => h) rfl _ _ rfl (by kernel_rfl) ⟨J, 4, none⟩ rfl _ ((HJ0.out.kept (Chg.refl (fun _ => False) w0).drew (fun h => h)).at 4 _ rfl) (fun h => h) ?_
  simp only [Act.put, List.setIfInBounds_toArray, List.set_cons_zero, List.set_cons_succ]
  refine wpT.take (v := .int .u32 next) 8 rfl (by kernel_rfl) (fun _ _ _ h => h) rfl (fun w' hw' => by have hx := EW.out; go_simp <;> first | with_reducible rfl | simp [hx]) ?_
  simp only [Act.put, List.setIfInBounds_toArray, List.set_cons_zero, List.set_cons_succ]
  refine wpT.take 9 rfl (by kernel_rfl) (fun _ _ _ h => h) rfl (fun w' hw' => by go_simp <;> with_reducible rfl) ?_
  simp only [Act.put, List.setIfInBounds_toArray, List.set_cons_zero, List.set_cons_succ]
  refine wpT.call 10 rfl (by kernel_rfl) rfl (fun K hK => ?_)
  go_wp2_with fail
  refine (HSP.out w0.drew (HV0.out.same (Chg.refl (fun _ => False) w0).drew)).mono ?_
  rintro e w1 ⟨v1, ss, rfl, hse, hsp, c1⟩
  have c01 : Chg (fun _ => False) w w1 := cq.trans ((Chg.refl (fun _ => False) w0).drew.trans c1)
  obtain ⟨sa, sc, rfl⟩ := hse.own.form
  refine hK _ _ c1 ?_
  clear hK
  try (simp only [Act.put, List.setIfInBounds_toArray, List.set_cons_zero, List.set_cons_succ])
  refine wpT.take 11 rfl (by kernel_rfl) (fun _ _ _ h => h) rfl (fun w' hw' => by go_simp <;> with_reducible rfl) ?_
  simp only [Act.put, List.setIfInBounds_toArray, List.set_cons_zero, List.set_cons_succ]
  refine wpT.take 12 rfl (by kernel_rfl) (fun _ _ _ h => h) rfl (fun w' hw' => by go_simp <;> with_reducible rfl) ?_
  simp only [Act.put, List.setIfInBounds_toArray, List.set_cons_zero, List.set_cons_succ]
  refine wpT.take 13 rfl (by kernel_rfl) (fun _ _ _ h => h) rfl (fun w' hw' => by go_simp <;> with_reducible rfl) ?_
  simp only [Act.put, List.setIfInBounds_toArray, List.set_cons_zero, List.set_cons_succ]
  refine wpT.take 14 rfl (by kernel_rfl) (fun _ _ _ h => h) rfl (fun w' hw' => by go_simp <;> with_reducible rfl) ?_
  simp only [Act.put, List.setIfInBounds_toArray, List.set_cons_zero, List.set_cons_succ]
  refine wpT.take 15 rfl (by kernel_rfl) (fun _ _ _ h => h) rfl (fun w' hw' => by go_simp <;> with_reducible rfl) ?_
  simp only [Act.put, List.setIfInBounds_toArray, List.set_cons_zero, List.set_cons_succ]
  refine wpT.done (by kernel_rfl) ?_
  have HSZ : Hid (w.heap.size ≤ w0.drew.heap.size) := cq.size
  clear cq HJ0 HV0 HSP HV EW
  obtain rfl : ss.length = m := hsp.1
  have SP := Lib.hid hsp
  have SE := Lib.hid hse
  clear hsp hse
  go_wp2_with fail
  go_loopw [48] (fun i wr => ∃ (k : Nat) (wvk : Value), k ≤ ss.length ∧ i = .int .i64 k ∧ DevIs wr D lv wvk { d with waits := d.waits ++ wat (lo + next) ((recSecs turn next l).take k) } ∧ Chg (foot D lv wv) w1 wr ∧ (∀ q, wvk.ownBlock = some q → wv.ownBlock = some q ∨ w1.heap.size ≤ q)) (fun i _ => ss.length - (intOf i).toNat)
  case atStart =>
    exact ⟨0, wv, by omega, rfl, by simpa [wat] using H.out.kept c01 (fun _ _ h => h), Chg.refl _ _, fun q hq => .inl hq⟩
  case round =>
    obtain ⟨k, wvk, hk, rfl, hDk, ck, hin⟩ := hrel
    have z01 := c01.size
    have zk := ck.size
    have hnf : ∀ q, foot D lv wvk q → foot D lv wv q ∨ w1.heap.size ≤ q := fun q hq => by
      rcases hq with hq | hq | hq
      · exact .inl (.inl hq)
      · exact .inl (.inr (.inl hq))
      · rcases hin q hq with h1 | h1
        · exact .inl (.inr (.inr h1))
        · exact .inr h1
    have hJlt : J < w.heap.size := HJ.out.lt
    have HNFk : Hid (¬ foot D lv wvk J) := fun h => by
      rcases hnf J h with h1 | h1
      · exact HNF.out h1
      · omega
    have HNW := Lib.hid hnf
    have HIN := Lib.hid hin
    have CK := Lib.hid ck
    have HDk := Lib.hid hDk
    have HJr := Lib.hid ((HJ.out.kept c01 (fun h => h)).kept ck HNF.out)
    have q4 := HJr.out.at 4 _ rfl
    clear hDk ck hin hnf
    by_cases hlt : k < ss.length
    · obtain ⟨s, hs⟩ : ∃ s, ss[k]? = some s := ⟨_, List.getElem?_eq_getElem hlt⟩
      obtain ⟨s1, s2, s3, s4⟩ := SP.out.2 k s hs
      have hsf : ∀ q, (Value.slice sa ss.length sc).ownBlock = some q → ¬ foot D lv wv q := fun q hq h => by
        have h1 := SE.out.fresh q hq
        have h2 := HFL.out q h
        have h3 := HSZ.out
        omega
      have hown := SE.out.own.kept CK.out hsf
      have hdat := SE.out.data s (List.mem_of_getElem? hs)
      have hdf : ∀ q, s.dv.ownBlock = some q → ¬ foot D lv wv q := fun q hq h => by
        have h1 := hdat.2.1 q hq
        have h2 := HFL.out q h
        have h3 := HSZ.out
        omega
      have hdv := Lib.hid (hdat.1.kept CK.out hdf)
      obtain ⟨g, o, rfl⟩ : ∃ g o, sa = some ⟨g, o, none⟩ := by
        rcases hown.2 with ⟨hv, h0⟩ | ⟨g, o, c, hv, _⟩
        · omega
        · simp only [Value.slice.injEq] at hv; exact ⟨g, o, hv.1⟩
      have hce : ∀ (j : Nat) (u : Value), (flat ss)[j]? = some u → wr.cell? ⟨g, o + j, none⟩ = some u := by
        rcases hown.2 with ⟨hv, h0⟩ | ⟨g', o', c, hv, _, _, _, hc, _⟩
        · omega
        · simp only [Value.slice.injEq, Option.some.injEq, Addr.mk.injEq, true_and, and_true] at hv
          obtain ⟨⟨rfl, rfl⟩, _⟩ := hv
          exact hc
      have p0 := hce (k * 4 + 0) _ (flat_get ss k 0 s hs (by omega))
      have p1 := hce (k * 4 + 1) _ (flat_get ss k 1 s hs (by omega))
      have p2 := hce (k * 4 + 2) _ (flat_get ss k 2 s hs (by omega))
      have p3 := hce (k * 4 + 3) _ (flat_get ss k 3 s hs (by omega))
      simp only [Nat.add_zero, ← Nat.add_assoc] at p0 p1 p2 p3
      have k0 : wr.cell? ⟨g, o + k * 4, none⟩ = some (.int .u32 turn) := by rw [← s1]; exact p0
      have k1 : wr.cell? ⟨g, o + k * 4 + 1, none⟩ = some (.int .u32 ((next + k : Nat) : Int)) := by rw [← s2]; exact p1
      have k2 : wr.cell? ⟨g, o + k * 4 + 2, none⟩ = some (.bool s.last) := p2
      have k3 : wr.cell? ⟨g, o + k * 4 + 3, none⟩ = some s.dv := p3
      have hdl : s.data.length ≤ 47 := by rw [s4]; simp; omega
      have HPK : Hid (∀ w, RB w s.dv s.data → Calls Try.prog 78 #[.agg #[.int .u32 turn, .int .u32 ((next + k : Nat) : Int), .bool s.last, s.dv]] w fun e w' => ∃ v', e = .returned (.tuple #[v', .int .i64 0]) ∧ OB w' v' (recSec turn next l k) ∧ Chg (fun _ => False) w w' ∧ Fresh w v') := fun w hw => by
        have := pack_any turn (next + k) s.last s.dv s.data w ht (by omega) h0 hdl hw
        have e1 : recSec turn next l k = packOf turn (next + k) s.last s.data := by
          unfold recSec; rw [s4, s3, ← HME.out]; congr 1; rw [decide_eq_decide]; omega
        rw [e1]; exact this
      clear hce hown hdat hsf hdf s1 s2 s3 s4 p0 p1 p2 p3 hs
      generalize s.last = L at *
      obtain ⟨da, dc, hde⟩ := hdv.out.form
      rw [hde] at hdv k3 HPK
      clear hde
      generalize (((next + k : Nat) : Int)) = pl at k1 HPK
      have WA : Hid (IntKind.i64.wrap ((lo : Int) + next) = (lo : Int) + next) := IntWalk.i64_in _ (by omega)
      have WB : Hid (IntKind.i64.wrap ((lo : Int) + next + k) = (lo : Int) + next + k) := IntWalk.i64_in _ (by omega)
      have WC : Hid (((lo + next + k : Nat) : Int) = (lo : Int) + next + k) := by show _ = _; omega
      go_wp2_with fail
      refine (HPK.out _ (hdv.out.alloc _)).mono ?_
      rintro e w6 ⟨v6, rfl, ho6, c6, f6⟩
      have c56 : Chg (fun _ => False) wr w6 := ((Chg.refl _ wr).alloc _).trans c6
      clear c6 k0 k1 k2 k3 q4
      go_wp2_with fail
      have HJk := Lib.hid (HJr.out.kept c56 (fun h => h))
      have HWR : Hid (Calls Try.prog 79 #[.pointer (some ⟨D, 0, none⟩), .int .i64 ((lo : Int) + next + k), v6] w6.drew fun e w' => e = .returned (.int .i64 0) ∧ ∃ wv', DevIs w' D lv wv' { d with waits := d.waits ++ wat (lo + next) ((recSecs turn next l).take (k + 1)) } ∧ Chg (foot D lv wvk) w6.drew w' ∧ ∀ q, wv'.ownBlock = some q → wvk.ownBlock = some q ∨ w6.drew.heap.size ≤ q) := by
        have hw := wat_length ((recSecs turn next l).take k) (lo + next)
        have hrl := recSecs_length turn next l
        have hkc : k < costN l.length := by rw [← HME.out]; exact hlt
        have := write_ok w6.drew D lv wvk v6 _ (lo + next + k) (recSec turn next l k) (HDk.out.kept (c56.trans (Chg.refl _ w6).drew) (fun _ _ h => h)) (.inl (ho6.rb.kept (Chg.refl (fun _ => False) w6).drew (fun _ _ h => h))) HD.out HL0.out (by show _ < d.l.length; omega) (by rw [recSec_len]; omega)
          (by simp only [List.length_append, hw, List.length_take]; omega)
        rw [WC.out] at this
        refine this.mono ?_
        rintro e w' ⟨rfl, wv', h1, h2, h3⟩
        refine ⟨rfl, wv', ?_, h2, h3⟩
        rw [recSecs_take _ _ _ _ hkc, wat_snoc, pad_64 (recSec_len _ _ _ _), List.length_take, Nat.min_eq_left (by omega), List.append_assoc] at *
        exact h1
      refine wpT.begin (foot D lv wvk) 18 (by kernel_rfl) rfl ?_
      refine wpT.take 0 rfl (by kernel_rfl) (fun _ _ _ h => h) rfl (fun w' hw' => by go_simp <;> with_reducible rfl) ?_
      simp only [Act.put, List.setIfInBounds_toArray, List.set_cons_zero, List.set_cons_succ]
      refine wpT.take 1 rfl (by kernel_rfl) (fun _ _ _ h => h) rfl (fun w' hw' => by go_simp <;> with_reducible rfl) ?_
      simp only [Act.put, List.setIfInBounds_toArray, List.set_cons_zero, List.set_cons_succ]
      refine wpT.take 2 rfl (by kernel_rfl) (fun _ _ _ h => h) rfl (fun w' hw' => by go_simp <;> with_reducible rfl) ?_
      simp only [Act.put, List.setIfInBounds_toArray, List.set_cons_zero, List.set_cons_succ]
      refine wpT.ld 3 rfl (by kernel_rfl) (fun _ _ _ _ h => h) rfl _ _ rfl (by kernel_rfl) ⟨J, 0, none⟩ rfl _ ((HJk.out.kept (Chg.refl (fun _ => False) w6).drew (fun h => h)).at 0 _ rfl) (fun h => HNFk.out h) ?_
      simp only [Act.put, List.setIfInBounds_toArray, List.set_cons_zero, List.set_cons_succ]
      refine wpT.take 4 rfl (by kernel_rfl) (fun _ _ _ h => h) rfl (fun w' hw' => by go_simp <;> with_reducible rfl) ?_
      simp only [Act.put, List.setIfInBounds_toArray, List.set_cons_zero, List.set_cons_succ]
      refine wpT.take 5 rfl (by kernel_rfl) (fun _ _ _ h => h) rfl (fun w' hw' => by go_simp <;> with_reducible rfl) ?_
      simp only [Act.put, List.setIfInBounds_toArray, List.set_cons_zero, List.set_cons_succ]
      refine wpT.take 6 rfl (by kernel_rfl) (fun _ _ _ h => h) rfl (fun w' hw' => by go_simp <;> with_reducible rfl) ?_
      simp only [Act.put, List.setIfInBounds_toArray, List.set_cons_zero, List.set_cons_succ]
      refine wpT.ld 7 rfl (by kernel_rfl) (fun _ _ _ _ h => h) rfl _ _ rfl (by kernel_rfl) ⟨J, 1, none⟩ rfl _ ((HJk.out.kept (Chg.refl (fun _ => False) w6).drew (fun h => h)).at 1 _ rfl) (fun h => HNFk.out h) ?_
      simp only [Act.put, List.setIfInBounds_toArray, List.set_cons_zero, List.set_cons_succ]
      refine wpT.take 8 rfl (by kernel_rfl) (fun _ _ _ h => h) rfl (fun w' hw' => by go_simp <;> with_reducible rfl) ?_
      simp only [Act.put, List.setIfInBounds_toArray, List.set_cons_zero, List.set_cons_succ]
      refine wpT.take 9 rfl (by kernel_rfl) (fun _ _ _ h => h) rfl (fun w' hw' => by go_simp <;> with_reducible rfl) ?_
      simp only [Act.put, List.setIfInBounds_toArray, List.set_cons_zero, List.set_cons_succ]
      refine wpT.take 10 rfl (by kernel_rfl) (fun _ _ _ h => h) rfl (fun w' hw' => by go_simp <;> with_reducible rfl) ?_
      simp only [Act.put, List.setIfInBounds_toArray, List.set_cons_zero, List.set_cons_succ]
      refine wpT.ld 11 rfl (by kernel_rfl) (fun _ _ _ _ h => h) rfl _ _ rfl (by kernel_rfl) ⟨J, 4, none⟩ rfl _ ((HJk.out.kept (Chg.refl (fun _ => False) w6).drew (fun h => h)).at 4 _ rfl) (fun h => HNFk.out h) ?_
      simp only [Act.put, List.setIfInBounds_toArray, List.set_cons_zero, List.set_cons_succ]
      refine wpT.take (v := .int .i64 ((lo : Int) + next)) 12 rfl (by kernel_rfl) (fun _ _ _ h => h) rfl (fun w' hw' => by have hx := WA.out; go_simp <;> first | with_reducible rfl | simp [hx]) ?_
      simp only [Act.put, List.setIfInBounds_toArray, List.set_cons_zero, List.set_cons_succ]
      refine wpT.take 13 rfl (by kernel_rfl) (fun _ _ _ h => h) rfl (fun w' hw' => by go_simp <;> with_reducible rfl) ?_
      simp only [Act.put, List.setIfInBounds_toArray, List.set_cons_zero, List.set_cons_succ]
      refine wpT.take (v := .int .i64 ((lo : Int) + next + k)) 14 rfl (by kernel_rfl) (fun _ _ _ h => h) rfl (fun w' hw' => by have hx := WB.out; go_simp <;> first | with_reducible rfl | simp [hx]) ?_
      simp only [Act.put, List.setIfInBounds_toArray, List.set_cons_zero, List.set_cons_succ]
      refine wpT.take 15 rfl (by kernel_rfl) (fun _ _ _ h => h) rfl (fun w' hw' => by go_simp <;> with_reducible rfl) ?_
      simp only [Act.put, List.setIfInBounds_toArray, List.set_cons_zero, List.set_cons_succ]
      refine wpT.call 16 rfl (by kernel_rfl) rfl (fun K hK => ?_)
      go_wp2_with fail
      refine (HWR.out).mono ?_
      rintro e w7 ⟨rfl, wv7, hD7, c7, in7⟩
      have cst : Chg (foot D lv wvk) w6.drew w7 := c7
      refine hK _ _ cst ?_
      clear hK cst
      try (simp only [Act.put, List.setIfInBounds_toArray, List.set_cons_zero, List.set_cons_succ])
      refine wpT.take 17 rfl (by kernel_rfl) (fun _ _ _ h => h) rfl (fun w' hw' => by go_simp <;> with_reducible rfl) ?_
      simp only [Act.put, List.setIfInBounds_toArray, List.set_cons_zero, List.set_cons_succ]
      refine wpT.done (by kernel_rfl) ?_
      have z6 := c56.size
      have hc7 : Chg (foot D lv wv) w1 w7 := ((CK.out.trans (c56.mono (fun _ _ h => h.elim))).drew).trans' c7 (fun i hi ht => by
        rcases HNW.out i ht with h1 | h1
        · exact h1
        · omega)
      have hi7 : ∀ q, wv7.ownBlock = some q → wv.ownBlock = some q ∨ w1.heap.size ≤ q := fun q hq => by
        rcases in7 q hq with h1 | h1
        · exact HIN.out q h1
        · have h1 : w6.heap.size ≤ q := h1
          exact .inr (by omega)
      have HC7 := Lib.hid hc7
      have HI7 := Lib.hid hi7
      have HD7 := Lib.hid hD7
      clear hc7 hi7 hD7 c7 in7 f6
      go_wp2_with fail
      exact ⟨⟨k + 1, wv7, by omega, rfl, HD7.out, HC7.out, HI7.out⟩, by simp only [intOf]; omega⟩
    · obtain rfl : k = ss.length := by omega
      have qf : wr.frozen? ⟨J, 4, none⟩ = false := by obtain ⟨T, hb⟩ := HJr.out.heap; exact frozen_of_heap hb 4
      go_wp2_with fail
      go_ret
      have cJ : Chg (fun q => q = J) wr (wr.setCell ⟨J, 4, none⟩ (.int .i64 ((next : Int) + ss.length))) := (Chg.refl (fun q => q = J) wr).setCell (p := ⟨J, 4, none⟩) (fun _ => rfl) _
      have hall : (recSecs turn next l).take ss.length = recSecs turn next l := List.take_of_length_le (by rw [recSecs_length, ← HME.out]; exact Nat.le_refl _)
      have hDk := HDk.out
      rw [hall] at hDk
      refine ⟨rfl, wvk, hDk.kept cJ (fun q hq e => HNFk.out (e ▸ hq)), ?_, ?_, fun q hq => ?_⟩
      · obtain ⟨T, hb⟩ := HJr.out.heap
        exact ⟨T, Cat.heap_setCell_same hb 4 _⟩
      · exact ((c01.mono (fun _ _ h => h.elim)).trans' (CK.out.mono (fun q _ h => .inl h)) (fun q _ h => h)).trans' (cJ.mono (fun q _ h => .inr h)) (fun q _ h => h)
      · rcases HIN.out q hq with h1 | h1
        · exact .inl h1
        · exact .inr (by omega)
end Go.Proofs.Ytjhkhdockiocgaa
