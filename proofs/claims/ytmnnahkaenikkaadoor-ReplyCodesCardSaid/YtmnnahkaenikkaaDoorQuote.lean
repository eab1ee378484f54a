/- json.quote: a text in quotes. -/
import Derived.Test.YtmnnahkaenikkaaDoorHex
namespace Go.Proofs.YtmnnahkaenikkaaDoor
open Go.RowKit Go.Cat
open Go.Lib (IsBuilderF byteCells fresh_isBuilder)
theorem idx_strj (s : List UInt8) (k : Nat) (c : UInt8) (w : World) (hk : s[k]? = some c) : (Instr.index 9 (.string ⟨s.toArray⟩) (.int .i64 k)).run Tryd.prog w = .ok (.int .u8 c.toNat) w := by
  obtain ⟨h1, h2⟩ := List.getElem?_eq_some_iff.1 hk
  have h3 : (k : Int) < s.length := by omega
  go_simp
  subst h2
  rfl
theorem byteCells_snoc (l : List UInt8) (c : UInt8) : byteCells l ++ [Value.int .u8 c.toNat] = byteCells (l ++ [c]) := by simp [byteCells]
theorem byteCells_str (l : List UInt8) (s : ByteArray) : byteCells l ++ Lib.strCells s = byteCells (l ++ s.data.toList) := by simp [byteCells, Lib.strCells]
/-- Up to a place. -/
def quoteK (s : List UInt8) (k : Nat) : List UInt8 := 34 :: (s.take k).flatMap quoteB
theorem quoteK_snoc (s : List UInt8) (k : Nat) (c : UInt8) (h : s[k]? = some c) : quoteK s (k + 1) = quoteK s k ++ quoteB c := by
  simp [quoteK, List.take_add_one, h, List.flatMap_append]
theorem quoteB_le (c : UInt8) : (quoteB c).length ≤ 6 := by
  unfold quoteB
  split
  · simp
  · split <;> simp
theorem flat_le (s : List UInt8) : (s.flatMap quoteB).length ≤ 6 * s.length := by
  induction s with
  | nil => simp
  | cons c r ih => have := quoteB_le c; simp only [List.flatMap_cons, List.length_append, List.length_cons]; omega
theorem quoteK_le (s : List UInt8) (k : Nat) (h : k ≤ s.length) : (quoteK s k).length ≤ 6 * k + 1 := by
  have := flat_le (s.take k)
  rw [List.length_take, Nat.min_eq_left h] at this
  simp only [quoteK, List.length_cons]; omega

set_option maxRecDepth 100000 in
set_option maxHeartbeats 2000000 in
theorem quote_ok (s : List UInt8) (w : World) (hl : s.length ≤ 1000000000) :
    Calls Tryd.prog 18 #[.string ⟨s.toArray⟩] w fun e w' => e = .returned (.string ⟨(quoteT s).toArray⟩) ∧ Chg (fun _ => False) w w' := by
  obtain ⟨n, hn⟩ : ∃ n, n = s.length := ⟨_, rfl⟩
  have HN := Lib.hid hn
  clear hn
  have h0 : IsBuilderF 55 5 w.heap.size w.heap.size (byteCells []) (w.alloc (.cells #[.pointer none, .slice none 0 0] 55)) := IsBuilderF.of (fresh_isBuilder 55 5 w)
  have hb0 : Below w.heap.size w (w.alloc (.cells #[.pointer none, .slice none 0 0] 55)) := (Below.refl _ w).alloc (Nat.le_refl _) _
  go_enter Tryd.func18, Tryd.ntmps18
  go_wp2_with (go_at_call 22; refine (Tryd.Builder_WriteByte_k w.heap.size w.heap.size _ _ _ h0 (by simp [byteCells]) hb0.size).mono ?_; rintro e w1 ⟨rfl, hi1, hb1, _⟩; refine Hid.out ?_)
  refine Lib.hid ?_
  have hB1 := hb0.trans hb1
  have hI1 : IsBuilderF 55 5 w.heap.size w.heap.size (byteCells (quoteK s 0)) w1 := .inr (by simpa [byteCells, quoteK] using hi1)
  clear h0 hb0 hi1 hb1
  go_wp2_with fail
  go_loopw [4, 5, 9, 17, 27] (fun _ _ i _ _ wr => ∃ k : Nat, k ≤ s.length ∧ i = .int .i64 k ∧ IsBuilderF 55 5 w.heap.size w.heap.size (byteCells (quoteK s k)) wr ∧ Below w.heap.size w wr) (fun _ _ i _ _ _ => s.length - (RowKit.intOf i).toNat)
  case atStart =>
    exact ⟨0, by omega, rfl, hI1, hB1⟩
  case round =>
    obtain ⟨k, hk, rfl, hib, hbw⟩ := hrel
    have hsz := hbw.size
    have hlk := quoteK_le s k hk
    by_cases hlt : k < s.length
    · obtain ⟨x, hx⟩ : ∃ x, s[k]? = some x := ⟨_, List.getElem?_eq_getElem hlt⟩
      have hidx := idx_strj s k x wr hx
      have hkI : (k : Int) < s.length := by omega
      have hw1 : wrap64 ((k : Int) + 1) = (k : Int) + 1 := by unfold wrap64; omega
      have hx8 : x.toNat < 256 := x.toNat_lt
      have HX := Lib.hid (congrArg byteCells (quoteK_snoc s k x hx))
      clear hx
      by_cases hA : x = 34 ∨ x = 92
      · have hq : quoteB x = [92, x] := if_pos hA
        rw [hq] at HX
        rcases (show ((x.toNat : Int) == 34) = true ∨ ((x.toNat : Int) == 34) = false ∧ ((x.toNat : Int) == 92) = true from hA.elim (fun h => .inl (by rw [h]; rfl)) (fun h => .inr ⟨by rw [h]; rfl, by rw [h]; rfl⟩)) with e1 | ⟨e1, e2⟩
        · clear hA hq
          go_wp2_with (go_at_call 22; refine (Tryd.Builder_WriteByte_k w.heap.size w.heap.size _ 92 _ hib (by rw [byteCells_bs, bs_length]; omega) hsz).mono ?_; rintro e w3 ⟨rfl, hi3, hb3, _⟩; refine Hid.out ?_)
          refine Lib.hid ?_
          have hsz3 := (hbw.trans hb3).size
          go_wp2_with (go_at_call 22; refine (Tryd.Builder_WriteByte_k w.heap.size w.heap.size _ _ _ (.inr hi3) (by rw [List.length_append, byteCells_bs, bs_length]; simp only [List.length_cons, List.length_nil]; omega) hsz3).mono ?_; rintro e w4 ⟨rfl, hi4, hb4, _⟩; refine Hid.out ?_)
          refine Lib.hid ?_
          have hid := hi4
          rw [show byteCells (quoteK s k) ++ [Value.int .u8 92] ++ [Value.int .u8 x.toNat] = byteCells (quoteK s k ++ [92, x]) by simp [byteCells]] at hid
          rw [← HX.out] at hid
          go_wp2_with fail
          exact ⟨⟨k + 1, by omega, rfl, .inr hid, (hbw.trans hb3).trans hb4⟩, by simp only [RowKit.intOf]; omega⟩
        · clear hA hq
          go_wp2_with (go_at_call 22; refine (Tryd.Builder_WriteByte_k w.heap.size w.heap.size _ 92 _ hib (by rw [byteCells_bs, bs_length]; omega) hsz).mono ?_; rintro e w3 ⟨rfl, hi3, hb3, _⟩; refine Hid.out ?_)
          refine Lib.hid ?_
          have hsz3 := (hbw.trans hb3).size
          go_wp2_with (go_at_call 22; refine (Tryd.Builder_WriteByte_k w.heap.size w.heap.size _ _ _ (.inr hi3) (by rw [List.length_append, byteCells_bs, bs_length]; simp only [List.length_cons, List.length_nil]; omega) hsz3).mono ?_; rintro e w4 ⟨rfl, hi4, hb4, _⟩; refine Hid.out ?_)
          refine Lib.hid ?_
          have hid := hi4
          rw [show byteCells (quoteK s k) ++ [Value.int .u8 92] ++ [Value.int .u8 x.toNat] = byteCells (quoteK s k ++ [92, x]) by simp [byteCells]] at hid
          rw [← HX.out] at hid
          go_wp2_with fail
          exact ⟨⟨k + 1, by omega, rfl, .inr hid, (hbw.trans hb3).trans hb4⟩, by simp only [RowKit.intOf]; omega⟩
      · have e1 : ((x.toNat : Int) == 34) = false := by
          have : x.toNat ≠ 34 := fun h => hA (.inl (UInt8.toNat_inj.1 h))
          simp; omega
        have e2 : ((x.toNat : Int) == 92) = false := by
          have : x.toNat ≠ 92 := fun h => hA (.inr (UInt8.toNat_inj.1 h))
          simp; omega
        by_cases hB : x < 32 ∨ 126 < x
        · have hq : quoteB x = [92, 117, 48, 48, hexd (x.toNat / 16), hexd (x.toNat % 16)] := by unfold quoteB; rw [if_neg hA, if_pos hB]
          rw [hq] at HX
          rcases (show (x.toNat : Int) < 32 ∨ ¬ (x.toNat : Int) < 32 ∧ (126 : Int) < x.toNat by
            have h32 : (x < 32) = (x.toNat < 32) := rfl
            have h126 : (126 < x) = (126 < x.toNat) := rfl
            rw [h32, h126] at hB; omega) with e3 | ⟨e3, e4⟩
          · clear hA hB hq
            have hrb := RB.one wr x.toNat 5 (by omega) (by omega)
            rw [show UInt8.ofNat (x.toNat : Int).toNat = x by simp] at hrb
            have HT := Lib.hid (hex_text _ [x] _ hrb (by simp))
            clear hrb
            have hib2 := hib.alloc (.cells #[.int .u8 x.toNat] 5)
            have hbw2 := hbw.alloc hsz (.cells #[.int .u8 x.toNat] 5)
            go_wp2_with (go_at_call 24; refine HT.out.mono ?_; rintro e w3 ⟨rfl, hc3⟩; refine Hid.out ?_)
            refine Lib.hid ?_
            have hib3 := builder_same hib2 hc3
            have hbw3 : Below w.heap.size w w3 := hbw2.trans ⟨hc3.os, hc3.tape, hc3.output, hc3.size, fun q hq => hc3.block q (by have := hbw2.size; omega) (fun h => h)⟩
            have hsz3 := hbw3.size
            clear hib2 hbw2
            have hz4 : (⟨#[92, 117, 48, 48]⟩ ++ ⟨(hexT [x]).toArray⟩ : ByteArray).data.toList = [92, 117, 48, 48, hexd (x.toNat / 16), hexd (x.toNat % 16)] := by
              simp [hexT, ByteArray.data_append]
            have hz5 : (⟨#[92, 117, 48, 48]⟩ ++ ⟨(hexT [x]).toArray⟩ : ByteArray).size = 6 := by
              rw [← ByteArray.size_data, ← Array.length_toList, hz4]; rfl
            have WS := fun W h1 h3 => Tryd.Builder_WriteString_k w.heap.size w.heap.size (byteCells (quoteK s k)) (⟨#[92, 117, 48, 48]⟩ ++ ⟨(hexT [x]).toArray⟩) W h1 (by rw [hz5, byteCells_bs, bs_length]; omega) h3
            have HZ := Lib.hid hz4
            clear hz4 hz5
            go_wp2_with (go_at_call 23; refine (WS _ hib3 hsz3).mono ?_; rintro e w4 ⟨rfl, hi4, hb4, _⟩; refine Hid.out ?_)
            refine Lib.hid ?_
            have hid := hi4
            rw [byteCells_str, HZ.out, ← HX.out] at hid
            go_wp2_with fail
            exact ⟨⟨k + 1, by omega, rfl, .inr hid, hbw3.trans hb4⟩, by simp only [RowKit.intOf]; omega⟩
          · clear hA hB hq
            have hrb := RB.one wr x.toNat 5 (by omega) (by omega)
            rw [show UInt8.ofNat (x.toNat : Int).toNat = x by simp] at hrb
            have HT := Lib.hid (hex_text _ [x] _ hrb (by simp))
            clear hrb
            have hib2 := hib.alloc (.cells #[.int .u8 x.toNat] 5)
            have hbw2 := hbw.alloc hsz (.cells #[.int .u8 x.toNat] 5)
            go_wp2_with (go_at_call 24; refine HT.out.mono ?_; rintro e w3 ⟨rfl, hc3⟩; refine Hid.out ?_)
            refine Lib.hid ?_
            have hib3 := builder_same hib2 hc3
            have hbw3 : Below w.heap.size w w3 := hbw2.trans ⟨hc3.os, hc3.tape, hc3.output, hc3.size, fun q hq => hc3.block q (by have := hbw2.size; omega) (fun h => h)⟩
            have hsz3 := hbw3.size
            clear hib2 hbw2
            have hz4 : (⟨#[92, 117, 48, 48]⟩ ++ ⟨(hexT [x]).toArray⟩ : ByteArray).data.toList = [92, 117, 48, 48, hexd (x.toNat / 16), hexd (x.toNat % 16)] := by
              simp [hexT, ByteArray.data_append]
            have hz5 : (⟨#[92, 117, 48, 48]⟩ ++ ⟨(hexT [x]).toArray⟩ : ByteArray).size = 6 := by
              rw [← ByteArray.size_data, ← Array.length_toList, hz4]; rfl
            have WS := fun W h1 h3 => Tryd.Builder_WriteString_k w.heap.size w.heap.size (byteCells (quoteK s k)) (⟨#[92, 117, 48, 48]⟩ ++ ⟨(hexT [x]).toArray⟩) W h1 (by rw [hz5, byteCells_bs, bs_length]; omega) h3
            have HZ := Lib.hid hz4
            clear hz4 hz5
            go_wp2_with (go_at_call 23; refine (WS _ hib3 hsz3).mono ?_; rintro e w4 ⟨rfl, hi4, hb4, _⟩; refine Hid.out ?_)
            refine Lib.hid ?_
            have hid := hi4
            rw [byteCells_str, HZ.out, ← HX.out] at hid
            go_wp2_with fail
            exact ⟨⟨k + 1, by omega, rfl, .inr hid, hbw3.trans hb4⟩, by simp only [RowKit.intOf]; omega⟩
        · have hq : quoteB x = [x] := by unfold quoteB; rw [if_neg hA, if_neg hB]
          rw [hq] at HX
          obtain ⟨e3, e4⟩ : ¬ (x.toNat : Int) < 32 ∧ ¬ (126 : Int) < x.toNat := by
            have h32 : (x < 32) = (x.toNat < 32) := rfl
            have h126 : (126 < x) = (126 < x.toNat) := rfl
            rw [h32, h126] at hB; omega
          clear hA hB hq
          go_wp2_with (go_at_call 22; refine (Tryd.Builder_WriteByte_k w.heap.size w.heap.size _ _ _ hib (by rw [byteCells_bs, bs_length]; omega) hsz).mono ?_; rintro e w3 ⟨rfl, hi3, hb3, _⟩; refine Hid.out ?_)
          refine Lib.hid ?_
          have hid := hi3
          rw [byteCells_snoc] at hid
          rw [← HX.out] at hid
          go_wp2_with fail
          exact ⟨⟨k + 1, by omega, rfl, .inr hid, hbw.trans hb3⟩, by simp only [RowKit.intOf]; omega⟩
    · obtain rfl : k = s.length := by omega
      go_wp2_with (go_at_call 22; refine (Tryd.Builder_WriteByte_k w.heap.size w.heap.size _ _ _ hib (by rw [byteCells_bs, bs_length]; omega) hsz).mono ?_; rintro e w1 ⟨rfl, hi2, hb2, _⟩; refine Hid.out ?_)
      refine Lib.hid ?_
      have hi3 := byteCells_snoc (quoteK s s.length) 34
      have hi4 : IsBuilderF 55 5 w.heap.size w.heap.size (byteCells (quoteT s)) w1 := by
        refine .inr ?_
        have e : quoteT s = quoteK s s.length ++ [34] := by simp [quoteT, quoteK]
        rw [e, ← hi3]; exact hi2
      clear hi3 hi2
      have hbe := hbw.trans hb2
      go_wp2_with (go_at_call 25; refine (Tryd.Builder_String_any_k w.heap.size w.heap.size _ _ hi4 hbe.size).mono ?_; rintro e w2 ⟨rfl, _, b1, _⟩)
      go_ret
      exact ⟨rfl, chg_of_below (hbe.trans b1)⟩
end Go.Proofs.YtmnnahkaenikkaaDoor
