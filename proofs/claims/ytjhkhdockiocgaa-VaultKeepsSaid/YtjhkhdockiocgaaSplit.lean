/- Split, of data whose slice may be empty and bear any address. -/
import Derived.Test.YtjhkhdockiocgaaStamp
import Derived.Test.YtjhkhdockiocgaaArr
namespace Go.Cat
open Go.RowKit

theorem RBz.cap_ge {w : World} {a : Option Addr} {n c : Nat} {l : List UInt8} (h : RBz w (.slice a n c) l) : n = l.length ∧ l.length ≤ c := by
  rcases h with h | ⟨rfl, b, hb⟩
  · exact h.cap_ge
  · simp only [Value.slice.injEq] at hb; simp [hb.2.1]
theorem RBz.piece {w : World} {a : Option Addr} {len cap : Nat} {l : List UInt8} (h : RBz w (.slice a len cap) l) {lo hi : Nat} (h1 : lo ≤ hi) (h2 : hi ≤ len) (h3 : hi ≤ cap) :
    RBz w (.slice (if cap = lo then a else a.map (·.add (lo * 1))) (hi - lo) (cap - lo)) ((l.drop lo).take (hi - lo)) := by
  rcases h with h | ⟨rfl, b, hb⟩
  · obtain rfl := h.cap_ge.1
    exact .inl (h.piece h1 h2 h3 (Nat.le_refl cap))
  · simp only [Value.slice.injEq] at hb
    obtain ⟨rfl, rfl, rfl⟩ := hb
    obtain rfl : hi = 0 := by omega
    obtain rfl : lo = 0 := by omega
    exact .inr ⟨by simp, a, by simp⟩
end Go.Cat
namespace Go.Proofs.Ytjhkhdockiocgaa
open Go.RowKit Go.Cat

theorem run_app_z (w : World) (g : Nat) (a : Option Addr) : (Builtin.append_ #[33, 33] 33 #[.slice (some ⟨g, 0, none⟩) 0 0, .slice a 0 0]).run Try.prog w = .ok (.slice (some ⟨g, 0, none⟩) 0 0) w := by
  obtain ⟨i, hi, hz0, hz1, hz2⟩ := info_parts Try.info5
  have hf : (Builtin.firstCells 1 0 (.slice a 0 0)).run Try.prog w = .ok #[] w := by
    cases a with
    | none => simp [Builtin.firstCells]
    | some p => exact run_firstCells_some w 1 0 p 0 0 [] (by simp) (by simp)
  simp [Builtin.append_, run_underlying Try.underlying33, sizeOf, typeInfo, hi, hz1, Builtin.lenOf, hf, storeCells]
set_option maxRecDepth 100000 in
set_option maxHeartbeats 1000000 in
theorem clone_anyz (v : Value) (w : World) (l : List UInt8) (hv : RBz w v l) (hl : l.length ≤ 140737488355328) :
    Calls Try.prog 105 #[v] w fun e w' => ∃ v', e = .returned v' ∧ OB w' v' l ∧ Chg (fun _ => False) w w' ∧ Fresh w v' := by
  rcases hv with hv | ⟨rfl, a, rfl⟩
  · exact clone_any v w l hv hl
  cases a with
  | none => exact clone_any _ w [] (Reads.nil w 1) hl
  | some p =>
    have eqn := eqn_bytes
    have ha := fun w => run_app_z w w.heap.size (some p)
    have haz := run_app_z (w.alloc (.cells #[] 5)) w.heap.size (some p)
    go_enter Try.func105, Try.ntmps105
    go_wp2_with fail
    go_ret
    exact ⟨_, rfl, OB.empty w 5, (Chg.refl _ w).alloc _, by simp [Fresh, Value.ownBlock]⟩

set_option maxRecDepth 100000 in
set_option maxHeartbeats 1000000 in
theorem split_anyz (turn place : Nat) (v : Value) (w : World) (l : List UInt8) (hv : RBz w v l) (_ : turn < 4294967296) (_ : place < 4294967296) (hl : l.length ≤ 600) (h0 : turn ≠ 0) (hq : place + max ((l.length + 46) / 47) 1 - 1 < 4294967296) :
    Calls Try.prog 77 #[.int .u32 turn, .int .u32 place, v] w fun e w' => ∃ v' ss, e = .returned (.tuple #[v', .int .i64 0]) ∧ Sectors w w' v' ss ∧ Splits turn place l (max ((l.length + 46) / 47) 1) (max ((l.length + 46) / 47) 1) ss ∧ Chg (fun _ => False) w w' := by
  obtain ⟨a, c, rfl⟩ := hv.form
  have e0 : ((turn : Int) == 0) = false := by simp; omega
  obtain ⟨n, hn⟩ : ∃ n, n = max ((l.length + 46) / 47) 1 := ⟨_, rfl⟩
  have hmax : (if ((l.length : Int) + 47 - 1) / 47 < 1 then (1 : Int) else ((l.length : Int) + 47 - 1) / 47) = (n : Int) := by split <;> omega
  have hn1 : n ≤ 13 := by omega
  have hn2 : 1 ≤ n := by omega
  have hle : (place : Int) + n - 1 ≤ 4294967295 := by omega
  have hcap := hv.cap_ge
  have HN := Lib.hid hn
  have HV := Lib.hid hv
  clear hq hn hv
  go_enter Try.func77, Try.ntmps77
  go_wp2_with fail
  clear hmax
  go_loopw [9, 31] (fun out i wr => ∃ (k : Nat) (ss : List Sec), k ≤ n ∧ i = .int .i64 k ∧ Sectors w wr out ss ∧ Splits turn place l n k ss ∧ Chg (fun _ => False) w wr) (fun _ i _ => n - (intOf i).toNat)
  case atStart =>
    exact ⟨0, [], by omega, rfl, ⟨Owns.empty w _ 4, fun k hk => by simp [Value.ownBlock] at hk; omega, by simp⟩, ⟨rfl, by simp⟩, (Chg.refl _ _).alloc _⟩
  case round =>
    obtain ⟨k, ss, hk, rfl, hse, hsp, hch⟩ := hrel
    have hlen := hsp.1
    by_cases hlt : k < n
    · obtain ⟨lo, hlo⟩ : ∃ lo, lo = min (k * 47) l.length := ⟨_, rfl⟩
      obtain ⟨hi, hhi⟩ : ∃ hi, hi = min ((k + 1) * 47) l.length := ⟨_, rfl⟩
      have mlo : (if (l.length : Int) < (k : Int) * 47 then (l.length : Int) else (k : Int) * 47) = (lo : Int) := by split <;> omega
      have mhi : (if (l.length : Int) < ((k : Int) + 1) * 47 then (l.length : Int) else ((k : Int) + 1) * 47) = (hi : Int) := by split <;> omega
      have lohi : lo ≤ hi := by omega
      have hil : hi ≤ l.length := by omega
      have hlc := hcap.2
      have hsl := fun w => slice_lohi w a l.length c lo hi lohi (by omega)
      have hpv := (HV.out.same hch).piece lohi hil (show hi ≤ c by omega)
      generalize hpp : (Value.slice (if c = lo then a else a.map (·.add (lo * 1))) (hi - lo) (c - lo)) = pv at hsl hpv
      have hpl : (List.take (hi - lo) (List.drop lo l)).length = hi - lo := by simp; omega
      generalize hpa : List.take (hi - lo) (List.drop lo l) = part at hpv hpl
      have HPA := Lib.hid hpa
      have hpl' : part.length ≤ 600 := by omega
      have HPL := Lib.hid hpl
      clear hpa hpl
      have HP := Lib.hid hpp
      have HLO := Lib.hid hlo
      have HHI := Lib.hid hhi
      clear hpp hlo hhi
      go_wp2_with fail
      refine (clone_anyz _ _ _ hpv (by omega)).mono ?_
      rintro e w2 ⟨dv, rfl, hdv, c2, f2⟩
      have hown2 := hse.own.kept c2 (fun _ _ h => h)
      rw [hlen] at hown2
      have HLEN := Lib.hid hlen
      clear hlen
      obtain ⟨da, dc, rfl⟩ := hdv.form
      go_wp2_with (at_builtin; go_loud (refine wpList_app_one rfl _ _ 132 rfl 138 (.agg #[.int .u32 0, .int .u32 0, .bool false, .slice none 0 0]) 4 40 Try.underlying132 Try.info138 rfl u9 k (flat ss) [.int .u32 turn, .int .u32 (place + k), .bool (decide ((k : Int) = n - 1)), .slice da part.length dc] _ rfl rfl hown2 rfl (by simp [Value.oneCell']) (by simp only [maxLen]; omega) (by omega) ?_; intro v' w3 own3 c3 in3 nn3))
      have hs3 := hse.step (s := ⟨turn, place + k, decide ((k : Int) = n - 1), .slice da part.length dc, part⟩) hch.size c2 hdv.rb f2 (by rw [HLEN.out]; exact own3) c3 in3
      have hp3 := hsp.step (s := ⟨turn, place + k, decide ((k : Int) = n - 1), .slice da part.length dc, part⟩) ⟨rfl, rfl, rfl, by rw [← HPA.out]; exact part_eq l k lo hi HLO.out HHI.out⟩
      have hc3 := (hch.trans c2).new c3 (fun q hq => hse.fresh q hq)
      clear mlo mhi hsl
      go_wp2_with fail
      exact ⟨⟨k + 1, _, by omega, rfl, hs3, hp3, hc3⟩, by simp only [intOf]; omega⟩
    · obtain rfl : k = n := by omega
      go_wp2_with fail
      go_ret2
      rw [← HN.out]
      exact ⟨_, ss, rfl, hse, hsp, hch⟩
end Go.Proofs.Ytjhkhdockiocgaa
