/- The laws StampTorn and StampPacks: four, bytes, same. -/
import Derived.Test.YtncgeeaifacapaaStamp4
import Derived.Test.YtncgeeaifacapaaL09a
namespace Go.Proofs.Ytncgeeaifacapaa
open Go.RowKit Go.Cat

set_option maxRecDepth 100000 in
set_option maxHeartbeats 1000000 in
theorem four_any (x : Nat) (w : World) (hx : x < 4294967296) :
    Calls Try.prog 78 #[.int .u32 x] w fun e w' => e = .returned (.string ⟨(be x 4).toArray⟩) ∧ Chg (fun _ => False) w w' := by
  have hbs : bs (be x 4) = [.int .u8 ((x : Int) / 16777216), .int .u8 ((x : Int) / 65536 % 256), .int .u8 ((x : Int) / 256 % 256), .int .u8 ((x : Int) % 256)] := by
    have key : ∀ y : Nat, ((UInt8.ofNat (y % 256)).toNat : Int) = (y : Int) % 256 := fun y => by rw [toNat_ofNat_lt _ (by omega)]; omega
    simp only [be, bs, List.map_cons, List.map_nil, key]
    have e1 : ((x / 256 ^ 3 : Nat) : Int) % 256 = (x : Int) / 16777216 := by
      have : (256 : Nat) ^ 3 = 16777216 := by decide
      rw [this]; omega
    have e2 : ((x / 256 ^ 2 : Nat) : Int) % 256 = (x : Int) / 65536 % 256 := by
      have : (256 : Nat) ^ 2 = 65536 := by decide
      rw [this]; omega
    have e3 : ((x / 256 ^ 1 : Nat) : Int) % 256 = (x : Int) / 256 % 256 := by
      have : (256 : Nat) ^ 1 = 256 := by decide
      rw [this]; omega
    have e4 : ((x / 256 ^ 0 : Nat) : Int) % 256 = (x : Int) % 256 := by
      have : (256 : Nat) ^ 0 = 1 := by decide
      rw [this]; omega
    rw [e1, e2, e3, e4]
  have hrb : RB (w.alloc (.cells #[.int .u8 ((x : Int) / 16777216), .int .u8 ((x : Int) / 65536 % 256), .int .u8 ((x : Int) / 256 % 256), .int .u8 ((x : Int) % 256)] 5)) (.slice (some ⟨w.heap.size, 0, none⟩) 4 4) (be x 4) := by
    have h4 : (be x 4).length = 4 := by simp
    refine ⟨by simp, .inr ⟨w.heap.size, 0, 4, by rw [h4], by rw [h4]; exact Nat.le_refl _, by simp [maxLen], by simp, fun j u hj => ?_⟩⟩
    rw [hbs] at hj
    rw [Nat.zero_add, World.cell?_alloc_new]
    simpa using hj
  have hcv := convb _ _ _ hrb
  clear hbs hrb
  go_enter Try.func78, Try.ntmps78
  go_wp2_with fail
  go_ret
  exact ⟨rfl, (Chg.refl _ w).alloc _⟩
theorem str_snoc9 (l : List UInt8) (m : List UInt8) : (⟨l.toArray⟩ : ByteArray) ++ ⟨m.toArray⟩ = ⟨(l ++ m).toArray⟩ := by
  apply ByteArray.ext
  simp
def strLen9 : Value → Nat
  | .string s => s.size
  | _ => 0
def pad47 (d : List UInt8) : List UInt8 := d ++ zb (47 - d.length)
theorem load_u32 (w : World) (p : Addr) (x : Int) (h : w.cell? p = some (.int .u32 x)) (hp : p.spot = none := by rfl) : (Instr.loadAt 33 (.pointer (some p))).run Try.prog w = .ok (.int .u32 x) w := by
  obtain ⟨b, o, s⟩ := p
  simp only at hp; subst hp
  go_simp
theorem str_add9 (a b : Array UInt8) : (⟨a⟩ : ByteArray) ++ ⟨b⟩ = ⟨a ++ b⟩ := by
  apply ByteArray.ext
  simp
set_option maxRecDepth 100000 in
set_option maxHeartbeats 1000000 in
theorem bytes_more (T P : Nat) (dv : Value) (d : List UInt8) (w : World) (hT : T < 4294967296) (hP : P < 4294967296) (hd : d.length ≤ 47) (hv : RB w dv d) :
    Calls Try.prog 34 #[.agg #[.int .u32 T, .int .u32 P, .bool false, dv]] w fun e w' => e = .returned (.string ⟨(packOf T P false d).toArray⟩) ∧ Chg (fun _ => False) w w' := by
  obtain ⟨da, dc, rfl⟩ := hv.form
  obtain ⟨w0, hw0⟩ : ∃ w0, w0 = w.alloc (.cells #[.int .u32 T, .int .u32 P, .bool false, .slice da d.length dc] 42) := ⟨_, rfl⟩
  have hb : w0.heap[w.heap.size]? = some (.cells #[.int .u32 T, .int .u32 P, .bool false, .slice da d.length dc] 42 (0, 0)) := by rw [hw0]; exact heap_at_new _ _ _ rfl
  have c0 : Chg (fun _ => False) w w0 := by rw [hw0]; exact (Chg.refl _ w).alloc _
  have hcv := convb w0 _ _ (hv.kept c0 (fun _ _ h => h))
  rw [hw0] at hcv
  have HB := Lib.hid hb
  have HW0 := Lib.hid hw0
  clear hb hw0 hv
  obtain ⟨N, hN⟩ : ∃ N, N = d.length + 0 := ⟨_, rfl⟩
  have hN1 : ((d.length : Int)) = (N : Int) := by rw [hN]; omega
  have HN := Lib.hid hN
  clear hN
  go_enter Try.func34, Try.ntmps34
  go_wp2_with fail
  clear hcv
  go_loopw [4] (fun b wr => ∃ m : List UInt8, b = .string ⟨m.toArray⟩ ∧ m.length ≤ 47 ∧ pad47 m = pad47 d ∧ wr = w0) (fun b _ => 47 - strLen9 b)
  case atStart =>
    exact ⟨d, rfl, hd, rfl, HW0.out.symm⟩
  case round =>
    obtain ⟨m, rfl, hm, hp, rfl⟩ := hrel
    have HP := Lib.hid hp
    have HS : Hid ((⟨m.toArray⟩ : ByteArray) ++ ⟨#[0]⟩ = ⟨(m ++ [0]).toArray⟩) := str_snoc9 m [0]
    clear hp
    by_cases hlt : m.length < 47
    · have h64 : (m.length : Int) < 47 := by omega
      have HM := Lib.hid hm
      clear hm
      go_wp2_with fail
      rw [HS.out]
      refine ⟨⟨m ++ [0], rfl, by simp; omega, ?_, trivial⟩, by simp [strLen9, ByteArray.size]; omega⟩
      rw [← HP.out]
      unfold pad47
      rw [List.append_assoc]
      congr 1
      rw [List.length_append, List.length_singleton, show 47 - m.length = (47 - (m.length + 1)) + 1 by omega]
      rfl
    · have h64 : ¬ (m.length : Int) < 47 := by omega
      have hm47 : m.length = 47 := by omega
      have e : pad47 m = m := by unfold pad47; rw [hm47]; simp [zb]
      have HE : Hid (m = pad47 d) := by rw [← HP.out, e]; trivial
      clear hlt hm47 e
      go_wp2_with fail
      have hL0 : Hid (∀ w', Chg (fun _ => False) wr.drew w' → (Instr.loadAt 33 (.pointer (some ⟨w.heap.size, 0, none⟩))).run Try.prog w' = .ok (.int .u32 T) w') := fun w' c => load_u32 w' _ _ ((Chg.cell (p := ⟨w.heap.size, 0, none⟩) (((Chg.refl _ wr).drew).trans c)) (by rw [cell_of_heap HB.out]; rfl) (fun h => h))
      have hL1 : Hid (∀ w', Chg (fun _ => False) wr.drew w' → (Instr.loadAt 33 (.pointer (some ⟨w.heap.size, 1, none⟩))).run Try.prog w' = .ok (.int .u32 P) w') := fun w' c => load_u32 w' _ _ ((Chg.cell (p := ⟨w.heap.size, 1, none⟩) (((Chg.refl _ wr).drew).trans c)) (by rw [cell_of_heap HB.out]; rfl) (fun h => h))
      refine wpT.begin (fun _ => False) 10 (by kernel_rfl) rfl ?_
      refine wpT.take 0 rfl (by kernel_rfl) (fun _ _ _ h => h) rfl (fun w' hw' => by go_simp <;> with_reducible rfl) ?_
      simp only [Act.put, List.setIfInBounds_toArray, List.set_cons_zero, List.set_cons_succ]
      refine wpT.take 1 rfl (by kernel_rfl) (fun _ _ _ h => h) rfl (fun w' hw' => by go_simp <;> with_reducible rfl) ?_
      simp only [Act.put, List.setIfInBounds_toArray, List.set_cons_zero, List.set_cons_succ]
      refine wpT.take 2 rfl (by kernel_rfl) (fun _ _ _ h => h) rfl (fun w' hw' => exec_load _ _ _ _ rfl rfl (hL0.out w' hw')) ?_
      simp only [Act.put, List.setIfInBounds_toArray, List.set_cons_zero, List.set_cons_succ]
      refine wpT.take 4 rfl (by kernel_rfl) (fun _ _ _ h => h) rfl (fun w' hw' => by go_simp <;> with_reducible rfl) ?_
      simp only [Act.put, List.setIfInBounds_toArray, List.set_cons_zero, List.set_cons_succ]
      refine wpT.take 5 rfl (by kernel_rfl) (fun _ _ _ h => h) rfl (fun w' hw' => by go_simp <;> with_reducible rfl) ?_
      simp only [Act.put, List.setIfInBounds_toArray, List.set_cons_zero, List.set_cons_succ]
      refine wpT.take 6 rfl (by kernel_rfl) (fun _ _ _ h => h) rfl (fun w' hw' => exec_load _ _ _ _ rfl rfl (hL1.out w' hw')) ?_
      simp only [Act.put, List.setIfInBounds_toArray, List.set_cons_zero, List.set_cons_succ]
      refine wpT.call 3 rfl (by kernel_rfl) rfl (fun K hK => ?_)
      go_wp2_with fail
      refine (four_any T _ hT).mono ?_
      rintro e w1 ⟨rfl, c1⟩
      refine hK _ _ c1 ?_
      clear hK
      refine wpT.call 7 rfl (by kernel_rfl) rfl (fun K hK => ?_)
      go_wp2_with fail
      refine (four_any P _ hP).mono ?_
      rintro e w2 ⟨rfl, c2⟩
      refine hK _ _ c2 ?_
      clear hK
      refine wpT.take 8 rfl (by kernel_rfl) (fun _ _ _ h => h) rfl (fun w' hw' => by go_simp <;> with_reducible rfl) ?_
      simp only [Act.put, List.setIfInBounds_toArray, List.set_cons_zero, List.set_cons_succ]
      refine wpT.take 9 rfl (by kernel_rfl) (fun _ _ _ h => h) rfl (fun w' hw' => by go_simp <;> with_reducible rfl) ?_
      simp only [Act.put, List.setIfInBounds_toArray, List.set_cons_zero, List.set_cons_succ]
      refine wpT.done (by kernel_rfl) ?_
      clear hL0 hL1
      have hNb : N < 256 := by have := HN.out; omega
      have hcv := convb _ _ _ (RB.one w2 N 5 (by omega) (by omega))
      go_wp2_with fail
      go_ret
      refine ⟨?_, ((c0.drew.trans c1).trans c2).alloc _⟩
      rw [HE.out]
      have hbe : be (d.length + if false = true then 128 else 0) 1 = [UInt8.ofNat N] := by
        have e : (d.length + if false = true then 128 else 0) = N := by rw [HN.out]; rfl
        rw [e]
        simp only [be]
        rw [Nat.pow_zero, Nat.div_one, Nat.mod_eq_of_lt hNb]
      have : (packOf T P false d).toArray = (be T 4).toArray ++ (be P 4).toArray ++ #[UInt8.ofNat N] ++ (pad47 d).toArray ++ ((be T 4).toArray ++ (be P 4).toArray) := by
        unfold packOf pad47
        rw [hbe]
        simp
      rw [this]
      show Ending.returned (.string ((⟨(be T 4).toArray⟩ : ByteArray) ++ ⟨(be P 4).toArray⟩ ++ ⟨#[UInt8.ofNat N]⟩ ++ ⟨(pad47 d).toArray⟩ ++ (⟨(be T 4).toArray⟩ ++ ⟨(be P 4).toArray⟩))) = _
      simp only [str_add9]
set_option maxRecDepth 100000 in
set_option maxHeartbeats 1000000 in
theorem bytes_last (T P : Nat) (dv : Value) (d : List UInt8) (w : World) (hT : T < 4294967296) (hP : P < 4294967296) (hd : d.length ≤ 47) (hv : RB w dv d) :
    Calls Try.prog 34 #[.agg #[.int .u32 T, .int .u32 P, .bool true, dv]] w fun e w' => e = .returned (.string ⟨(packOf T P true d).toArray⟩) ∧ Chg (fun _ => False) w w' := by
  obtain ⟨da, dc, rfl⟩ := hv.form
  obtain ⟨w0, hw0⟩ : ∃ w0, w0 = w.alloc (.cells #[.int .u32 T, .int .u32 P, .bool true, .slice da d.length dc] 42) := ⟨_, rfl⟩
  have hb : w0.heap[w.heap.size]? = some (.cells #[.int .u32 T, .int .u32 P, .bool true, .slice da d.length dc] 42 (0, 0)) := by rw [hw0]; exact heap_at_new _ _ _ rfl
  have c0 : Chg (fun _ => False) w w0 := by rw [hw0]; exact (Chg.refl _ w).alloc _
  have hcv := convb w0 _ _ (hv.kept c0 (fun _ _ h => h))
  rw [hw0] at hcv
  have HB := Lib.hid hb
  have HW0 := Lib.hid hw0
  clear hb hw0 hv
  obtain ⟨N, hN⟩ : ∃ N, N = d.length + 128 := ⟨_, rfl⟩
  have hN1 : (((d.length : Int) + 128 : Int)) = (N : Int) := by rw [hN]; omega
  have HN := Lib.hid hN
  clear hN
  go_enter Try.func34, Try.ntmps34
  go_wp2_with fail
  clear hcv
  go_loopw [4] (fun b wr => ∃ m : List UInt8, b = .string ⟨m.toArray⟩ ∧ m.length ≤ 47 ∧ pad47 m = pad47 d ∧ wr = w0) (fun b _ => 47 - strLen9 b)
  case atStart =>
    exact ⟨d, rfl, hd, rfl, HW0.out.symm⟩
  case round =>
    obtain ⟨m, rfl, hm, hp, rfl⟩ := hrel
    have HP := Lib.hid hp
    have HS : Hid ((⟨m.toArray⟩ : ByteArray) ++ ⟨#[0]⟩ = ⟨(m ++ [0]).toArray⟩) := str_snoc9 m [0]
    clear hp
    by_cases hlt : m.length < 47
    · have h64 : (m.length : Int) < 47 := by omega
      have HM := Lib.hid hm
      clear hm
      go_wp2_with fail
      rw [HS.out]
      refine ⟨⟨m ++ [0], rfl, by simp; omega, ?_, trivial⟩, by simp [strLen9, ByteArray.size]; omega⟩
      rw [← HP.out]
      unfold pad47
      rw [List.append_assoc]
      congr 1
      rw [List.length_append, List.length_singleton, show 47 - m.length = (47 - (m.length + 1)) + 1 by omega]
      rfl
    · have h64 : ¬ (m.length : Int) < 47 := by omega
      have hm47 : m.length = 47 := by omega
      have e : pad47 m = m := by unfold pad47; rw [hm47]; simp [zb]
      have HE : Hid (m = pad47 d) := by rw [← HP.out, e]; trivial
      clear hlt hm47 e
      go_wp2_with fail
      have hL0 : Hid (∀ w', Chg (fun _ => False) wr.drew w' → (Instr.loadAt 33 (.pointer (some ⟨w.heap.size, 0, none⟩))).run Try.prog w' = .ok (.int .u32 T) w') := fun w' c => load_u32 w' _ _ ((Chg.cell (p := ⟨w.heap.size, 0, none⟩) (((Chg.refl _ wr).drew).trans c)) (by rw [cell_of_heap HB.out]; rfl) (fun h => h))
      have hL1 : Hid (∀ w', Chg (fun _ => False) wr.drew w' → (Instr.loadAt 33 (.pointer (some ⟨w.heap.size, 1, none⟩))).run Try.prog w' = .ok (.int .u32 P) w') := fun w' c => load_u32 w' _ _ ((Chg.cell (p := ⟨w.heap.size, 1, none⟩) (((Chg.refl _ wr).drew).trans c)) (by rw [cell_of_heap HB.out]; rfl) (fun h => h))
      refine wpT.begin (fun _ => False) 10 (by kernel_rfl) rfl ?_
      refine wpT.take 0 rfl (by kernel_rfl) (fun _ _ _ h => h) rfl (fun w' hw' => by go_simp <;> with_reducible rfl) ?_
      simp only [Act.put, List.setIfInBounds_toArray, List.set_cons_zero, List.set_cons_succ]
      refine wpT.take 1 rfl (by kernel_rfl) (fun _ _ _ h => h) rfl (fun w' hw' => by go_simp <;> with_reducible rfl) ?_
      simp only [Act.put, List.setIfInBounds_toArray, List.set_cons_zero, List.set_cons_succ]
      refine wpT.take 2 rfl (by kernel_rfl) (fun _ _ _ h => h) rfl (fun w' hw' => exec_load _ _ _ _ rfl rfl (hL0.out w' hw')) ?_
      simp only [Act.put, List.setIfInBounds_toArray, List.set_cons_zero, List.set_cons_succ]
      refine wpT.take 4 rfl (by kernel_rfl) (fun _ _ _ h => h) rfl (fun w' hw' => by go_simp <;> with_reducible rfl) ?_
      simp only [Act.put, List.setIfInBounds_toArray, List.set_cons_zero, List.set_cons_succ]
      refine wpT.take 5 rfl (by kernel_rfl) (fun _ _ _ h => h) rfl (fun w' hw' => by go_simp <;> with_reducible rfl) ?_
      simp only [Act.put, List.setIfInBounds_toArray, List.set_cons_zero, List.set_cons_succ]
      refine wpT.take 6 rfl (by kernel_rfl) (fun _ _ _ h => h) rfl (fun w' hw' => exec_load _ _ _ _ rfl rfl (hL1.out w' hw')) ?_
      simp only [Act.put, List.setIfInBounds_toArray, List.set_cons_zero, List.set_cons_succ]
      refine wpT.call 3 rfl (by kernel_rfl) rfl (fun K hK => ?_)
      go_wp2_with fail
      refine (four_any T _ hT).mono ?_
      rintro e w1 ⟨rfl, c1⟩
      refine hK _ _ c1 ?_
      clear hK
      refine wpT.call 7 rfl (by kernel_rfl) rfl (fun K hK => ?_)
      go_wp2_with fail
      refine (four_any P _ hP).mono ?_
      rintro e w2 ⟨rfl, c2⟩
      refine hK _ _ c2 ?_
      clear hK
      refine wpT.take 8 rfl (by kernel_rfl) (fun _ _ _ h => h) rfl (fun w' hw' => by go_simp <;> with_reducible rfl) ?_
      simp only [Act.put, List.setIfInBounds_toArray, List.set_cons_zero, List.set_cons_succ]
      refine wpT.take 9 rfl (by kernel_rfl) (fun _ _ _ h => h) rfl (fun w' hw' => by go_simp <;> with_reducible rfl) ?_
      simp only [Act.put, List.setIfInBounds_toArray, List.set_cons_zero, List.set_cons_succ]
      refine wpT.done (by kernel_rfl) ?_
      clear hL0 hL1
      have hNb : N < 256 := by have := HN.out; omega
      have hcv := convb _ _ _ (RB.one w2 N 5 (by omega) (by omega))
      go_wp2_with fail
      go_ret
      refine ⟨?_, ((c0.drew.trans c1).trans c2).alloc _⟩
      rw [HE.out]
      have hbe : be (d.length + if true = true then 128 else 0) 1 = [UInt8.ofNat N] := by
        have e : (d.length + if true = true then 128 else 0) = N := by rw [HN.out]; rfl
        rw [e]
        simp only [be]
        rw [Nat.pow_zero, Nat.div_one, Nat.mod_eq_of_lt hNb]
      have : (packOf T P true d).toArray = (be T 4).toArray ++ (be P 4).toArray ++ #[UInt8.ofNat N] ++ (pad47 d).toArray ++ ((be T 4).toArray ++ (be P 4).toArray) := by
        unfold packOf pad47
        rw [hbe]
        simp
      rw [this]
      show Ending.returned (.string ((⟨(be T 4).toArray⟩ : ByteArray) ++ ⟨(be P 4).toArray⟩ ++ ⟨#[UInt8.ofNat N]⟩ ++ ⟨(pad47 d).toArray⟩ ++ (⟨(be T 4).toArray⟩ ++ ⟨(be P 4).toArray⟩))) = _
      simp only [str_add9]
theorem bytes_any (T P : Nat) (last : Bool) (dv : Value) (d : List UInt8) (w : World) (hT : T < 4294967296) (hP : P < 4294967296) (hd : d.length ≤ 47) (hv : RB w dv d) :
    Calls Try.prog 34 #[.agg #[.int .u32 T, .int .u32 P, .bool last, dv]] w fun e w' => e = .returned (.string ⟨(packOf T P last d).toArray⟩) ∧ Chg (fun _ => False) w w' := by
  cases last
  · exact bytes_more T P dv d w hT hP hd hv
  · exact bytes_last T P dv d w hT hP hd hv

set_option maxRecDepth 100000 in
set_option maxHeartbeats 1000000 in
theorem same_any (T P T2 P2 : Nat) (L L2 : Bool) (dv dv2 : Value) (d d2 : List UInt8) (w : World) (hv : RB w dv d) (hv2 : RB w dv2 d2) :
    Calls Try.prog 36 #[.agg #[.int .u32 T, .int .u32 P, .bool L, dv], .agg #[.int .u32 T2, .int .u32 P2, .bool L2, dv2]] w fun e w' => e = .returned (.bool (decide (T = T2 ∧ P = P2 ∧ L = L2 ∧ d = d2))) ∧ Chg (fun _ => False) w w' := by
  obtain ⟨da, dc, rfl⟩ := hv.form
  obtain ⟨da2, dc2, rfl⟩ := hv2.form
  have hcv := convb _ _ _ ((hv.alloc (.cells #[.int .u32 T, .int .u32 P, .bool L, .slice da d.length dc] 42)).alloc (.cells #[.int .u32 T2, .int .u32 P2, .bool L2, .slice da2 d2.length dc2] 42))
  have hcv2 := convb _ _ _ ((hv2.alloc (.cells #[.int .u32 T, .int .u32 P, .bool L, .slice da d.length dc] 42)).alloc (.cells #[.int .u32 T2, .int .u32 P2, .bool L2, .slice da2 d2.length dc2] 42))
  by_cases hs : T = T2
  · subst hs
    by_cases hp : P = P2
    · subst hp
      by_cases hl : L = L2
      · subst hl
        clear hv hv2
        go_enter Try.func36, Try.ntmps36
        go_wp2_with fail
        go_ret
        refine ⟨ret_bool2 ?_, ((Chg.refl _ w).alloc _).alloc _⟩
        by_cases h : d = d2 <;> simp [h]
      · have hL : (L == L2) = false := by simp [hl]
        have hF : decide (T = T ∧ P = P ∧ L = L2 ∧ d = d2) = false := by simp [hl]
        rw [hF]
        clear hv hv2 hF hl
        go_enter Try.func36, Try.ntmps36
        go_wp2_with fail
        go_ret
        exact ⟨rfl, ((Chg.refl _ w).alloc _).alloc _⟩
    · have hP : ¬ (P : Int) = P2 := by omega
      have hF : decide (T = T ∧ P = P2 ∧ L = L2 ∧ d = d2) = false := by simp [hp]
      rw [hF]
      clear hv hv2 hF hp
      go_enter Try.func36, Try.ntmps36
      go_wp2_with fail
      go_ret
      exact ⟨rfl, ((Chg.refl _ w).alloc _).alloc _⟩
  · have hT : ¬ (T : Int) = T2 := by omega
    have hF : decide (T = T2 ∧ P = P2 ∧ L = L2 ∧ d = d2) = false := by simp [hs]
    rw [hF]
    clear hv hv2 hF hs
    go_enter Try.func36, Try.ntmps36
    go_wp2_with fail
    go_ret
    exact ⟨rfl, ((Chg.refl _ w).alloc _).alloc _⟩
end Go.Proofs.Ytncgeeaifacapaa
