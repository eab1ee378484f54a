/- The law DeviceTorn, its walk. -/
import Derived.Test.YtncgeeaifacapaaL08
namespace Go.Proofs.Ytncgeeaifacapaa
open Go.RowKit Go.Cat

theorem str_ext (z y x : List UInt8) (q : Nat) (hx : x.length = 64) (hq : q ≤ 64) :
    ((⟨z.toArray⟩ : ByteArray) ++ ByteArray.extract ⟨y.toArray⟩ 0 q ++ ByteArray.extract ⟨x.toArray⟩ q 64 ++ ⟨z.toArray⟩).toList = z ++ y.take q ++ x.drop q ++ z := by
  have e1 : (ByteArray.extract ⟨y.toArray⟩ 0 q) = ⟨(y.take q).toArray⟩ := by apply ByteArray.ext; simp
  have e2 : (ByteArray.extract ⟨x.toArray⟩ q 64) = ⟨(x.drop q).toArray⟩ := by
    apply ByteArray.ext; simp
    rw [List.take_of_length_le (by simp; omega)]
  rw [e1, e2, str_snoc, str_snoc, str_snoc]
  simp
theorem str_ext0 (z x : List UInt8) (hx : x.length = 64) : ((⟨z.toArray⟩ : ByteArray) ++ ByteArray.extract ⟨x.toArray⟩ 0 64 ++ ⟨z.toArray⟩).toList = z ++ x ++ z := by
  have e2 : (ByteArray.extract ⟨x.toArray⟩ 0 64) = ⟨x.toArray⟩ := by
    apply ByteArray.ext; simp [List.take_of_length_le (show x.length ≤ 64 by omega)]
  rw [e2, str_snoc, str_snoc]
  simp
theorem torn_kept (l0 l1 : List UInt8) (n : Int) : (crashTo 1 0 n (flushTo (List.replicate 3 (zb 64)) ([] ++ [(1, pad l0)])) ([] ++ [(1, pad l1)]) ([] ++ [(1, pad l1)]).length).flatten =
    pad [] ++ (pad l1).take (min (max n 0) 64).toNat ++ (pad l0).drop (min (max n 0) 64).toNat ++ pad [] := by
  have hz : zb 64 = pad [] := rfl
  rw [hz]
  simp [crashTo, crashStep, flushTo, tornN, List.replicate]
theorem torn_lost (l0 l1 : List UInt8) (n : Int) : (crashTo 0 0 n (flushTo (List.replicate 3 (zb 64)) ([] ++ [(1, pad l0)])) ([] ++ [(1, pad l1)]) ([] ++ [(1, pad l1)]).length).flatten =
    pad [] ++ pad l0 ++ pad [] := by
  have hz : zb 64 = pad [] := rfl
  rw [hz]
  simp [crashTo, crashStep, flushTo, List.replicate]
theorem ret_bool {a b : Bool} (h : a = b) : Ending.returned (.bool a) = .returned (.bool b) := by rw [h]
set_option maxRecDepth 100000 in
set_option maxHeartbeats 1000000 in
theorem dt_long (v0 v1 : Value) (n : Int) (kept : Bool) (w : World) (l0 l1 : List UInt8) (h0 : RB w v0 l0) (h1 : RB w v1 l1) (hl : 64 < l0.length ∨ 64 < l1.length) :
    Calls Try.prog 6 #[v0, v1, .int .i64 n, .bool kept] w fun e w' => e = .returned (.bool true) ∧ Chg (fun _ => False) w w' := by
  obtain ⟨a0, c0, rfl⟩ := h0.form
  obtain ⟨a1, c1, rfl⟩ := h1.form
  clear h0 h1
  rcases Nat.lt_or_ge 64 l0.length with h | h
  all_goals
    first
    | have g0 : (64 : Int) < l0.length := by omega
      clear hl h
      go_enter Try.func6, Try.ntmps6
      go_wp2_with fail
      refine (lives08 w).mono ?_
      rintro e w1 ⟨rfl, k1⟩
      go_wp2_with fail
      refine (lives08 w1).mono ?_
      rintro e w2 ⟨rfl, k2⟩
      go_wp2_with fail
      go_ret
      exact ⟨rfl, k1.trans k2⟩
    | have g0 : ¬ (64 : Int) < l0.length := by omega
      have g1 : (64 : Int) < l1.length := by omega
      clear hl h
      go_enter Try.func6, Try.ntmps6
      go_wp2_with fail
      refine (lives08 w).mono ?_
      rintro e w1 ⟨rfl, k1⟩
      go_wp2_with fail
      refine (lives08 w1).mono ?_
      rintro e w2 ⟨rfl, k2⟩
      go_wp2_with fail
      go_ret
      exact ⟨rfl, k1.trans k2⟩

set_option maxRecDepth 100000 in
set_option maxHeartbeats 1000000 in
theorem dt_kept (v0 v1 : Value) (n : Int) (w : World) (l0 l1 : List UInt8) (h0 : RB w v0 l0) (h1 : RB w v1 l1) (hl0 : l0.length ≤ 64) (hl1 : l1.length ≤ 64) :
    Calls Try.prog 6 #[v0, v1, .int .i64 n, .bool true] w fun e w' => e = .returned (.bool true) ∧ Chg (fun _ => False) w w' := by
  obtain ⟨a0, c0, rfl⟩ := h0.form
  obtain ⟨a1, c1, rfl⟩ := h1.form
  have g0 : ¬ (64 : Int) < l0.length := by omega
  have g1 : ¬ (64 : Int) < l1.length := by omega
  have HV0 := Lib.hid h0
  have HV1 := Lib.hid h1
  clear h0 h1
  obtain ⟨m0, hm0⟩ : ∃ m0, m0 = if 64 < n then (64 : Int) else n := ⟨_, rfl⟩
  obtain ⟨q, hq⟩ : ∃ q, q = (min (max n 0) 64).toNat := ⟨_, rfl⟩
  have hq64 : q ≤ 64 := by omega
  have hm1 : (if m0 < 0 then (0 : Int) else m0) = (q : Int) := by rw [hm0, hq]; repeat (first | omega | split)
  have hm1' : (if 0 < m0 then m0 else (0 : Int)) = (q : Int) := by rw [hm0, hq]; repeat (first | omega | split)
  have hm0' := hm0.symm
  have HQ := Lib.hid hq
  clear hm0 hq
  obtain ⟨x, hxe⟩ : ∃ x, x = pad l0 := ⟨_, rfl⟩
  obtain ⟨y, hye⟩ : ∃ y, y = pad l1 := ⟨_, rfl⟩
  have p0 : x.length = 64 := by rw [hxe]; exact pad_length hl0
  have p1 : y.length = 64 := by rw [hye]; exact pad_length hl1
  have f0 : ∀ w, Calls Try.prog 32 #[.string ⟨l0.toArray⟩] w fun e w' => e = .returned (.string ⟨x.toArray⟩) ∧ w = w' := fun w => by rw [hxe]; exact full_any l0 w hl0
  have f1 : ∀ w, Calls Try.prog 32 #[.string ⟨l1.toArray⟩] w fun e w' => e = .returned (.string ⟨y.toArray⟩) ∧ w = w' := fun w => by rw [hye]; exact full_any l1 w hl1
  obtain ⟨z, hze⟩ : ∃ z, z = pad [] := ⟨_, rfl⟩
  have p2 : z.length = 64 := by rw [hze]; exact pad_length (by simp)
  have f2 : ∀ w, Calls Try.prog 32 #[.string ⟨#[]⟩] w fun e w' => e = .returned (.string ⟨z.toArray⟩) ∧ w = w' := fun w => by rw [hze]; exact full_any [] w (by simp)
  have F2 := Lib.hid f2
  have HZE := Lib.hid hze
  clear f2 hze
  have hq64' : (q : Int) ≤ 64 := by omega
  have s1 : ¬ 9223372036854775807 < 64 + q := by omega
  have s2 : ¬ 9223372036854775807 < 64 + q + (64 - q) := by omega
  have s3 : ¬ 9223372036854775807 < 64 + q + (64 - q) + 64 := by omega
  have F0 := Lib.hid f0
  have F1 := Lib.hid f1
  have HXE := Lib.hid hxe
  have HYE := Lib.hid hye
  clear f0 f1 hxe hye
  go_enter Try.func6, Try.ntmps6
  go_wp2_with fail
  refine (lives08 w).mono ?_
  rintro e w1 ⟨rfl, k1⟩
  go_wp2_with fail
  refine (up_new w w1 3 (by omega) (by omega) k1).mono ?_
  rintro e w2 ⟨D, rfl, h2⟩
  have H2 := Lib.hid h2
  clear h2 k1
  go_wp2_with fail
  refine (up_write w w2 D _ 1 _ l0 H2.out (HV0.out.kept H2.out.1 (fun _ _ h => h)) rfl rfl (by simp) hl0 (by simp)).mono ?_
  rintro e w3 ⟨rfl, h3⟩
  have H3 := Lib.hid h3
  clear h3 H2
  go_wp2_with fail
  refine (up_flush w w3 D _ H3.out rfl (by simp)).mono ?_
  rintro e w4 ⟨rfl, h4⟩
  have H4 := Lib.hid h4
  clear h4 H3
  go_wp2_with fail
  refine (up_write w w4 D _ 1 _ l1 H4.out (HV1.out.kept H4.out.1 (fun _ _ h => h)) rfl rfl (by simp [flushTo]) hl1 (by simp)).mono ?_
  rintro e w5 ⟨rfl, h5⟩
  have H5 := Lib.hid h5
  clear h5 H4
  go_wp2_with fail
  refine (up_crash w w5 D _ 1 0 n H5.out (by simp)).mono ?_
  rintro e w6 ⟨rfl, h6⟩
  have hx0 := (HV0.out.kept h6.1 (fun _ _ h => h)).drew
  have hx1 := (HV1.out.kept h6.1 (fun _ _ h => h)).drew
  have H6 := Lib.hid h6
  clear h6 H5
  go_wp2_with fail
  refine wpT.begin (fun _ => False) 8 (by kernel_rfl) rfl ?_
  refine wpT.take 0 rfl (by kernel_rfl) (fun _ _ _ h => h) rfl (fun w' hw' => by go_simp <;> with_reducible rfl) ?_
  simp only [Act.put, List.setIfInBounds_toArray, List.set_cons_zero, List.set_cons_succ]
  refine wpT.take 1 rfl (by kernel_rfl) (fun _ _ _ h => h) rfl (fun w' hw' => by have hx := convb w' _ _ (hx0.kept hw' (fun _ _ hf => hf)); go_simp <;> with_reducible rfl) ?_
  simp only [Act.put, List.setIfInBounds_toArray, List.set_cons_zero, List.set_cons_succ]
  refine wpT.take 3 rfl (by kernel_rfl) (fun _ _ _ h => h) rfl (fun w' hw' => by go_simp <;> with_reducible rfl) ?_
  simp only [Act.put, List.setIfInBounds_toArray, List.set_cons_zero, List.set_cons_succ]
  refine wpT.take 4 rfl (by kernel_rfl) (fun _ _ _ h => h) rfl (fun w' hw' => by have hx := convb w' _ _ (hx1.kept hw' (fun _ _ hf => hf)); go_simp <;> with_reducible rfl) ?_
  simp only [Act.put, List.setIfInBounds_toArray, List.set_cons_zero, List.set_cons_succ]
  refine wpT.call 2 rfl (by kernel_rfl) rfl (fun K hK => ?_)
  go_wp2_with fail
  refine (F0.out _).mono ?_
  rintro e w7 ⟨rfl, rfl⟩
  refine hK _ _ (Chg.refl _ _) ?_
  refine wpT.call 5 rfl (by kernel_rfl) rfl (fun K hK => ?_)
  go_wp2_with fail
  refine (F1.out _).mono ?_
  rintro e w7 ⟨rfl, rfl⟩
  refine hK _ _ (Chg.refl _ _) ?_
  refine wpT.take 6 rfl (by kernel_rfl) (fun _ _ _ h => h) rfl (fun w' hw' => by go_simp <;> with_reducible rfl) ?_
  simp only [Act.put, List.setIfInBounds_toArray, List.set_cons_zero, List.set_cons_succ]
  refine wpT.take 7 rfl (by kernel_rfl) (fun _ _ _ h => h) rfl (fun w' hw' => by go_simp <;> with_reducible rfl) ?_
  simp only [Act.put, List.setIfInBounds_toArray, List.set_cons_zero, List.set_cons_succ]
  refine wpT.done (by kernel_rfl) ?_
  have h6d : DevUp w w6.drew D _ := H6.out.kept (Chg.refl _ w6).drew
  have H6d := Lib.hid h6d
  clear h6d H6 hx0 hx1
  go_wp2_with fail
  refine wpT.begin (fun _ => False) 16 (by kernel_rfl) rfl ?_
  refine wpT.take 0 rfl (by kernel_rfl) (fun _ _ _ h => h) rfl (fun w' hw' => by go_simp <;> with_reducible rfl) ?_
  simp only [Act.put, List.setIfInBounds_toArray, List.set_cons_zero, List.set_cons_succ]
  refine wpT.take 4 rfl (by kernel_rfl) (fun _ _ _ h => h) rfl (fun w' hw' => by go_simp <;> with_reducible rfl) ?_
  simp only [Act.put, List.setIfInBounds_toArray, List.set_cons_zero, List.set_cons_succ]
  refine wpT.take 5 rfl (by kernel_rfl) (fun _ _ _ h => h) rfl (fun w' hw' => by go_simp <;> with_reducible rfl) ?_
  simp only [Act.put, List.setIfInBounds_toArray, List.set_cons_zero, List.set_cons_succ]
  refine wpT.take 6 rfl (by kernel_rfl) (fun _ _ _ h => h) rfl (fun w' hw' => by go_simp <;> with_reducible rfl) ?_
  simp only [Act.put, List.setIfInBounds_toArray, List.set_cons_zero, List.set_cons_succ]
  refine wpT.take 8 rfl (by kernel_rfl) (fun _ _ _ h => h) rfl (fun w' hw' => by go_simp <;> with_reducible rfl) ?_
  simp only [Act.put, List.setIfInBounds_toArray, List.set_cons_zero, List.set_cons_succ]
  refine wpT.take 9 rfl (by kernel_rfl) (fun _ _ _ h => h) rfl (fun w' hw' => by go_simp <;> with_reducible rfl) ?_
  simp only [Act.put, List.setIfInBounds_toArray, List.set_cons_zero, List.set_cons_succ]
  refine wpT.take 10 rfl (by kernel_rfl) (fun _ _ _ h => h) rfl (fun w' hw' => by go_simp <;> with_reducible rfl) ?_
  simp only [Act.put, List.setIfInBounds_toArray, List.set_cons_zero, List.set_cons_succ]
  refine wpT.call 1 rfl (by kernel_rfl) rfl (fun K hK => ?_)
  go_wp2_with fail
  refine (up_image w _ D _ (H6d.out.kept (Chg.refl _ w6.drew).drew)).mono ?_
  rintro e w8 ⟨v8, rfl, h8, d8, k8⟩
  refine hK _ _ k8 ?_
  obtain ⟨l8, hl8⟩ : ∃ l, l = List.flatten (crashTo 1 0 n (flushTo (List.replicate 3 (zb 64)) ([] ++ [(1, pad l0)])) ([] ++ [(1, pad l1)]) ([] ++ [(1, pad l1)]).length) := ⟨_, rfl⟩
  have h8' : OB w8 v8 l8 := by rw [hl8]; exact h8
  have HL8 := Lib.hid hl8
  have hd8 := d8.1
  clear h8 hl8 d8 hK H6d
  obtain ⟨a8, c8, rfl⟩ := h8'.form
  refine wpT.take 2 rfl (by kernel_rfl) (fun _ _ _ h => h) rfl (fun w' hw' => by have hx := convb w' _ _ (h8'.rb.kept hw' (fun _ _ hf => hf)); go_simp <;> with_reducible rfl) ?_
  simp only [Act.put, List.setIfInBounds_toArray, List.set_cons_zero, List.set_cons_succ]
  refine wpT.call 3 rfl (by kernel_rfl) rfl (fun K hK => ?_)
  go_wp2_with fail
  refine (F2.out _).mono ?_
  rintro e w9 ⟨rfl, rfl⟩
  refine hK _ _ (Chg.refl _ _) ?_
  refine wpT.take 7 rfl (by kernel_rfl) (fun _ _ _ h => h) rfl (fun w' hw' => by go_simp <;> with_reducible rfl) ?_
  simp only [Act.put, List.setIfInBounds_toArray, List.set_cons_zero, List.set_cons_succ]
  refine wpT.take 11 rfl (by kernel_rfl) (fun _ _ _ h => h) rfl (fun w' hw' => by go_simp <;> with_reducible rfl) ?_
  simp only [Act.put, List.setIfInBounds_toArray, List.set_cons_zero, List.set_cons_succ]
  refine wpT.call 12 rfl (by kernel_rfl) rfl (fun K hK => ?_)
  go_wp2_with fail
  refine (F2.out _).mono ?_
  rintro e w9 ⟨rfl, rfl⟩
  refine hK _ _ (Chg.refl _ _) ?_
  refine wpT.take 13 rfl (by kernel_rfl) (fun _ _ _ h => h) rfl (fun w' hw' => by go_simp <;> with_reducible rfl) ?_
  simp only [Act.put, List.setIfInBounds_toArray, List.set_cons_zero, List.set_cons_succ]
  refine wpT.take 14 rfl (by kernel_rfl) (fun _ _ _ h => h) rfl (fun w' hw' => by go_simp <;> with_reducible rfl) ?_
  simp only [Act.put, List.setIfInBounds_toArray, List.set_cons_zero, List.set_cons_succ]
  refine wpT.take 15 rfl (by kernel_rfl) (fun _ _ _ h => h) rfl (fun w' hw' => by go_simp <;> with_reducible rfl) ?_
  simp only [Act.put, List.setIfInBounds_toArray, List.set_cons_zero, List.set_cons_succ]
  refine wpT.done (by kernel_rfl) ?_
  go_wp2_with fail
  go_ret
  refine ⟨ret_bool ?_, hd8⟩
  rw [str_ext z y x q p0 (by omega)]
  rw [HL8.out, beq_iff_eq, HXE.out, HYE.out, HZE.out]
  rw [HQ.out]; exact torn_kept l0 l1 n

set_option maxRecDepth 100000 in
set_option maxHeartbeats 1000000 in
theorem dt_lost (v0 v1 : Value) (n : Int) (w : World) (l0 l1 : List UInt8) (h0 : RB w v0 l0) (h1 : RB w v1 l1) (hl0 : l0.length ≤ 64) (hl1 : l1.length ≤ 64) :
    Calls Try.prog 6 #[v0, v1, .int .i64 n, .bool false] w fun e w' => e = .returned (.bool true) ∧ Chg (fun _ => False) w w' := by
  obtain ⟨a0, c0, rfl⟩ := h0.form
  obtain ⟨a1, c1, rfl⟩ := h1.form
  have g0 : ¬ (64 : Int) < l0.length := by omega
  have g1 : ¬ (64 : Int) < l1.length := by omega
  have HV0 := Lib.hid h0
  have HV1 := Lib.hid h1
  clear h0 h1
  obtain ⟨m0, hm0⟩ : ∃ m0, m0 = if 64 < n then (64 : Int) else n := ⟨_, rfl⟩
  obtain ⟨q, hq⟩ : ∃ q, q = (min (max n 0) 64).toNat := ⟨_, rfl⟩
  have hq64 : q ≤ 64 := by omega
  have hm1 : (if m0 < 0 then (0 : Int) else m0) = (q : Int) := by rw [hm0, hq]; repeat (first | omega | split)
  have hm1' : (if 0 < m0 then m0 else (0 : Int)) = (q : Int) := by rw [hm0, hq]; repeat (first | omega | split)
  have hm0' := hm0.symm
  have HQ := Lib.hid hq
  clear hm0 hq
  obtain ⟨x, hxe⟩ : ∃ x, x = pad l0 := ⟨_, rfl⟩
  obtain ⟨y, hye⟩ : ∃ y, y = pad l1 := ⟨_, rfl⟩
  have p0 : x.length = 64 := by rw [hxe]; exact pad_length hl0
  have p1 : y.length = 64 := by rw [hye]; exact pad_length hl1
  have f0 : ∀ w, Calls Try.prog 32 #[.string ⟨l0.toArray⟩] w fun e w' => e = .returned (.string ⟨x.toArray⟩) ∧ w = w' := fun w => by rw [hxe]; exact full_any l0 w hl0
  have f1 : ∀ w, Calls Try.prog 32 #[.string ⟨l1.toArray⟩] w fun e w' => e = .returned (.string ⟨y.toArray⟩) ∧ w = w' := fun w => by rw [hye]; exact full_any l1 w hl1
  obtain ⟨z, hze⟩ : ∃ z, z = pad [] := ⟨_, rfl⟩
  have p2 : z.length = 64 := by rw [hze]; exact pad_length (by simp)
  have f2 : ∀ w, Calls Try.prog 32 #[.string ⟨#[]⟩] w fun e w' => e = .returned (.string ⟨z.toArray⟩) ∧ w = w' := fun w => by rw [hze]; exact full_any [] w (by simp)
  have F2 := Lib.hid f2
  have HZE := Lib.hid hze
  clear f2 hze
  have hq64' : (q : Int) ≤ 64 := by omega
  have s1 : ¬ 9223372036854775807 < 64 + q := by omega
  have s2 : ¬ 9223372036854775807 < 64 + q + (64 - q) := by omega
  have s3 : ¬ 9223372036854775807 < 64 + q + (64 - q) + 64 := by omega
  have F0 := Lib.hid f0
  have F1 := Lib.hid f1
  have HXE := Lib.hid hxe
  have HYE := Lib.hid hye
  clear f0 f1 hxe hye
  go_enter Try.func6, Try.ntmps6
  go_wp2_with fail
  refine (lives08 w).mono ?_
  rintro e w1 ⟨rfl, k1⟩
  go_wp2_with fail
  refine (up_new w w1 3 (by omega) (by omega) k1).mono ?_
  rintro e w2 ⟨D, rfl, h2⟩
  have H2 := Lib.hid h2
  clear h2 k1
  go_wp2_with fail
  refine (up_write w w2 D _ 1 _ l0 H2.out (HV0.out.kept H2.out.1 (fun _ _ h => h)) rfl rfl (by simp) hl0 (by simp)).mono ?_
  rintro e w3 ⟨rfl, h3⟩
  have H3 := Lib.hid h3
  clear h3 H2
  go_wp2_with fail
  refine (up_flush w w3 D _ H3.out rfl (by simp)).mono ?_
  rintro e w4 ⟨rfl, h4⟩
  have H4 := Lib.hid h4
  clear h4 H3
  go_wp2_with fail
  refine (up_write w w4 D _ 1 _ l1 H4.out (HV1.out.kept H4.out.1 (fun _ _ h => h)) rfl rfl (by simp [flushTo]) hl1 (by simp)).mono ?_
  rintro e w5 ⟨rfl, h5⟩
  have H5 := Lib.hid h5
  clear h5 H4
  go_wp2_with fail
  refine (up_crash w w5 D _ 0 0 n H5.out (by simp)).mono ?_
  rintro e w6 ⟨rfl, h6⟩
  have hx0 := (HV0.out.kept h6.1 (fun _ _ h => h)).drew
  have hx1 := (HV1.out.kept h6.1 (fun _ _ h => h)).drew
  have H6 := Lib.hid h6
  clear h6 H5
  go_wp2_with fail
  refine wpT.begin (fun _ => False) 8 (by kernel_rfl) rfl ?_
  refine wpT.take 0 rfl (by kernel_rfl) (fun _ _ _ h => h) rfl (fun w' hw' => by go_simp <;> with_reducible rfl) ?_
  simp only [Act.put, List.setIfInBounds_toArray, List.set_cons_zero, List.set_cons_succ]
  refine wpT.take 1 rfl (by kernel_rfl) (fun _ _ _ h => h) rfl (fun w' hw' => by have hx := convb w' _ _ (hx0.kept hw' (fun _ _ hf => hf)); go_simp <;> with_reducible rfl) ?_
  simp only [Act.put, List.setIfInBounds_toArray, List.set_cons_zero, List.set_cons_succ]
  refine wpT.take 3 rfl (by kernel_rfl) (fun _ _ _ h => h) rfl (fun w' hw' => by go_simp <;> with_reducible rfl) ?_
  simp only [Act.put, List.setIfInBounds_toArray, List.set_cons_zero, List.set_cons_succ]
  refine wpT.take 4 rfl (by kernel_rfl) (fun _ _ _ h => h) rfl (fun w' hw' => by have hx := convb w' _ _ (hx1.kept hw' (fun _ _ hf => hf)); go_simp <;> with_reducible rfl) ?_
  simp only [Act.put, List.setIfInBounds_toArray, List.set_cons_zero, List.set_cons_succ]
  refine wpT.call 2 rfl (by kernel_rfl) rfl (fun K hK => ?_)
  go_wp2_with fail
  refine (F0.out _).mono ?_
  rintro e w7 ⟨rfl, rfl⟩
  refine hK _ _ (Chg.refl _ _) ?_
  refine wpT.call 5 rfl (by kernel_rfl) rfl (fun K hK => ?_)
  go_wp2_with fail
  refine (F1.out _).mono ?_
  rintro e w7 ⟨rfl, rfl⟩
  refine hK _ _ (Chg.refl _ _) ?_
  refine wpT.take 6 rfl (by kernel_rfl) (fun _ _ _ h => h) rfl (fun w' hw' => by go_simp <;> with_reducible rfl) ?_
  simp only [Act.put, List.setIfInBounds_toArray, List.set_cons_zero, List.set_cons_succ]
  refine wpT.take 7 rfl (by kernel_rfl) (fun _ _ _ h => h) rfl (fun w' hw' => by go_simp <;> with_reducible rfl) ?_
  simp only [Act.put, List.setIfInBounds_toArray, List.set_cons_zero, List.set_cons_succ]
  refine wpT.done (by kernel_rfl) ?_
  have h6d : DevUp w w6.drew D _ := H6.out.kept (Chg.refl _ w6).drew
  have H6d := Lib.hid h6d
  clear h6d H6 hx0 hx1
  go_wp2_with fail
  refine wpT.begin (fun _ => False) 16 (by kernel_rfl) rfl ?_
  refine wpT.take 0 rfl (by kernel_rfl) (fun _ _ _ h => h) rfl (fun w' hw' => by go_simp <;> with_reducible rfl) ?_
  simp only [Act.put, List.setIfInBounds_toArray, List.set_cons_zero, List.set_cons_succ]
  refine wpT.take 4 rfl (by kernel_rfl) (fun _ _ _ h => h) rfl (fun w' hw' => by go_simp <;> with_reducible rfl) ?_
  simp only [Act.put, List.setIfInBounds_toArray, List.set_cons_zero, List.set_cons_succ]
  refine wpT.take 5 rfl (by kernel_rfl) (fun _ _ _ h => h) rfl (fun w' hw' => by go_simp <;> with_reducible rfl) ?_
  simp only [Act.put, List.setIfInBounds_toArray, List.set_cons_zero, List.set_cons_succ]
  refine wpT.take 6 rfl (by kernel_rfl) (fun _ _ _ h => h) rfl (fun w' hw' => by go_simp <;> with_reducible rfl) ?_
  simp only [Act.put, List.setIfInBounds_toArray, List.set_cons_zero, List.set_cons_succ]
  refine wpT.take 8 rfl (by kernel_rfl) (fun _ _ _ h => h) rfl (fun w' hw' => by go_simp <;> with_reducible rfl) ?_
  simp only [Act.put, List.setIfInBounds_toArray, List.set_cons_zero, List.set_cons_succ]
  refine wpT.take 9 rfl (by kernel_rfl) (fun _ _ _ h => h) rfl (fun w' hw' => by go_simp <;> with_reducible rfl) ?_
  simp only [Act.put, List.setIfInBounds_toArray, List.set_cons_zero, List.set_cons_succ]
  refine wpT.take 10 rfl (by kernel_rfl) (fun _ _ _ h => h) rfl (fun w' hw' => by go_simp <;> with_reducible rfl) ?_
  simp only [Act.put, List.setIfInBounds_toArray, List.set_cons_zero, List.set_cons_succ]
  refine wpT.call 1 rfl (by kernel_rfl) rfl (fun K hK => ?_)
  go_wp2_with fail
  refine (up_image w _ D _ (H6d.out.kept (Chg.refl _ w6.drew).drew)).mono ?_
  rintro e w8 ⟨v8, rfl, h8, d8, k8⟩
  refine hK _ _ k8 ?_
  obtain ⟨l8, hl8⟩ : ∃ l, l = List.flatten (crashTo 0 0 n (flushTo (List.replicate 3 (zb 64)) ([] ++ [(1, pad l0)])) ([] ++ [(1, pad l1)]) ([] ++ [(1, pad l1)]).length) := ⟨_, rfl⟩
  have h8' : OB w8 v8 l8 := by rw [hl8]; exact h8
  have HL8 := Lib.hid hl8
  have hd8 := d8.1
  clear h8 hl8 d8 hK H6d
  obtain ⟨a8, c8, rfl⟩ := h8'.form
  refine wpT.take 2 rfl (by kernel_rfl) (fun _ _ _ h => h) rfl (fun w' hw' => by have hx := convb w' _ _ (h8'.rb.kept hw' (fun _ _ hf => hf)); go_simp <;> with_reducible rfl) ?_
  simp only [Act.put, List.setIfInBounds_toArray, List.set_cons_zero, List.set_cons_succ]
  refine wpT.call 3 rfl (by kernel_rfl) rfl (fun K hK => ?_)
  go_wp2_with fail
  refine (F2.out _).mono ?_
  rintro e w9 ⟨rfl, rfl⟩
  refine hK _ _ (Chg.refl _ _) ?_
  refine wpT.take 7 rfl (by kernel_rfl) (fun _ _ _ h => h) rfl (fun w' hw' => by go_simp <;> with_reducible rfl) ?_
  simp only [Act.put, List.setIfInBounds_toArray, List.set_cons_zero, List.set_cons_succ]
  refine wpT.take 11 rfl (by kernel_rfl) (fun _ _ _ h => h) rfl (fun w' hw' => by go_simp <;> with_reducible rfl) ?_
  simp only [Act.put, List.setIfInBounds_toArray, List.set_cons_zero, List.set_cons_succ]
  refine wpT.call 12 rfl (by kernel_rfl) rfl (fun K hK => ?_)
  go_wp2_with fail
  refine (F2.out _).mono ?_
  rintro e w9 ⟨rfl, rfl⟩
  refine hK _ _ (Chg.refl _ _) ?_
  refine wpT.take 13 rfl (by kernel_rfl) (fun _ _ _ h => h) rfl (fun w' hw' => by go_simp <;> with_reducible rfl) ?_
  simp only [Act.put, List.setIfInBounds_toArray, List.set_cons_zero, List.set_cons_succ]
  refine wpT.take 14 rfl (by kernel_rfl) (fun _ _ _ h => h) rfl (fun w' hw' => by go_simp <;> with_reducible rfl) ?_
  simp only [Act.put, List.setIfInBounds_toArray, List.set_cons_zero, List.set_cons_succ]
  refine wpT.take 15 rfl (by kernel_rfl) (fun _ _ _ h => h) rfl (fun w' hw' => by go_simp <;> with_reducible rfl) ?_
  simp only [Act.put, List.setIfInBounds_toArray, List.set_cons_zero, List.set_cons_succ]
  refine wpT.done (by kernel_rfl) ?_
  go_wp2_with fail
  go_ret
  refine ⟨ret_bool ?_, hd8⟩
  rw [str_ext0 z x p0]
  rw [HL8.out, beq_iff_eq, HXE.out, HZE.out]
  exact torn_lost l0 l1 n
theorem torn_any (v0 v1 : Value) (n : Int) (kept : Bool) (w : World) (l0 l1 : List UInt8) (h0 : RB w v0 l0) (h1 : RB w v1 l1) :
    Calls Try.prog 6 #[v0, v1, .int .i64 n, .bool kept] w fun e w' => e = .returned (.bool true) ∧ Chg (fun _ => False) w w' := by
  by_cases hl : 64 < l0.length ∨ 64 < l1.length
  · exact dt_long v0 v1 n kept w l0 l1 h0 h1 hl
  · cases kept
    · exact dt_lost v0 v1 n w l0 l1 h0 h1 (by omega) (by omega)
    · exact dt_kept v0 v1 n w l0 l1 h0 h1 (by omega) (by omega)
end Go.Proofs.Ytncgeeaifacapaa
