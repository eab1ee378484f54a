/- json.Print: a value's text. -/
import Derived.Test.YtmnnahkaenikkaaDoorQuote
import Derived.Lib.LaidTab
namespace Go.Proofs.YtmnnahkaenikkaaDoor
open Go.RowKit Go.Cat
theorem size_val : (Tryd.prog.info? 26).map (·.size) = some 6 := by kernel_rfl
theorem size_pair : (Tryd.prog.info? 32).map (·.size) = some 7 := by kernel_rfl
theorem store_new {P : Program} (t : TypeId) (z c : List Value) (T : TypeId) (hi : (P.info? t).map (·.size) = some c.length) (hz : z.length = c.length) (h1 : one c) (w : World) :
    (Instr.storeAt t (.pointer (some ⟨w.heap.size, 0, none⟩)) (.agg c.toArray)).run P (w.alloc (.cells z.toArray T)) = .ok () (w.alloc (.cells c.toArray T)) := by
  have hcell : ∀ j, j < c.length → ((w.alloc (.cells z.toArray T)).cell? ⟨w.heap.size, 0 + j, none⟩).isSome = true := fun j hj => by
    rw [cell_of_heap (heap_alloc_new w _)]; simp [hz, hj]
  have hf : ∀ j, j < c.length → (w.alloc (.cells z.toArray T)).frozen? ⟨w.heap.size, 0 + j, none⟩ = false := fun j _ => frozen_of_heap (heap_alloc_new w _) _
  rw [run_storeAt_agg _ t _ 0 c hi hcell hf h1, setCells_alloc c w z T 0 (by omega)]
  rw [Nat.zero_add, List.drop_of_length_le (Nat.le_of_eq hz)]; simp
theorem load_new {P : Program} (t : TypeId) (d : TypeDesc) (c : List Value) (T : TypeId) (hu : P.underlying t = some d) (hd : (match d with | .struct _ | .array _ _ => true | _ => false) = true) (hi : (P.info? t).map (·.size) = some c.length) (w : World) :
    (Instr.loadAt t (.pointer (some ⟨w.heap.size, 0, none⟩))).run P (w.alloc (.cells c.toArray T)) = .ok (.agg c.toArray) (w.alloc (.cells c.toArray T)) :=
  run_loadAt_agg _ t d _ 0 c hu hd hi fun j u hj => by rw [cell_of_heap (heap_alloc_new w _)]; simpa using hj
/-- The table of powers is as it was laid. -/
def Tab (w : World) : Prop := Lib.TabIs Tryd.prog w "internal/strconv.uint64pow10" .u64 Lib.pow10Tab
theorem Tab.same {w w' : World} (h : Tab w) (c : Chg (fun _ => False) w w') : Tab w' := by
  unfold Tab Lib.TabIs World.var? at *
  cases hg : Tryd.prog.globalNamed "internal/strconv.uint64pow10" with
  | none => simp [hg] at h
  | some g =>
    simp only [hg, Option.bind_some] at h ⊢
    have hlt : g < w.heap.size := by
      rcases Nat.lt_or_ge g w.heap.size with h' | h'
      · exact h'
      · rw [Array.getElem?_eq_none h'] at h; simp at h
    rw [c.block g hlt (fun h => h)]
    exact h
theorem chg_grow (w : World) (k : Nat) (os : Array Obj) : Chg (fun _ => False) w (Sort.grow (w.drewN k) os) :=
  ⟨rfl, rfl, rfl, by simp [Sort.grow], fun q hq _ => by simp [Sort.grow, Array.getElem?_append_left hq]⟩
theorem formatInt_c (n : Int) (h0 : -9223372036854775808 ≤ n) (h1 : n ≤ 9223372036854775807) (w : World) (ht : Tab w) :
    Calls Tryd.prog 17 #[.int .i64 n, .int .i64 10] w fun e w' => e = .returned (.string ⟨(Lib.itoa n).toArray⟩) ∧ Chg (fun _ => False) w w' :=
  (Tryd.strconv_FormatInt_10 n h0 h1 w ht).mono fun _ _ ⟨he, k, os, hw⟩ => ⟨he, hw ▸ chg_grow w k os⟩

def PrintsUp (n : Nat) : Prop := ∀ (j : JV) (cs : List Value) (w : World), j.size ≤ n → j.ok → j.txt.length ≤ 1000000000 → j.Rep w cs → Tab w →
  Calls Tryd.prog 10 #[.agg cs.toArray] w fun e w' => e = .returned (.string ⟨j.txt.toArray⟩) ∧ Chg (fun _ => False) w w'

set_option maxRecDepth 100000 in
set_option maxHeartbeats 2000000 in
theorem print_flat (j : JV) (cs : List Value) (w : World) (hj : match j with | .row _ => False | .thing _ _ => False | _ => True) (hok : j.ok) (hl : j.txt.length ≤ 1000000000) (hr : j.Rep w cs) (ht : Tab w) :
    Calls Tryd.prog 10 #[.agg cs.toArray] w fun e w' => e = .returned (.string ⟨j.txt.toArray⟩) ∧ Chg (fun _ => False) w w' := by
  cases j with
  | null =>
    simp only [JV.Rep] at hr
    obtain ⟨h1, a1, a2, a3, a4, a5, rfl⟩ := hr
    clear h1
    go_enter Tryd.func10, Tryd.ntmps10
    go_wp2_with fail
    go_ret
    exact ⟨by simp [JV.txt], (Chg.refl _ w).alloc _⟩
  | bool b =>
    simp only [JV.Rep] at hr
    obtain ⟨h1, a2, a3, a4, a5, rfl⟩ := hr
    clear h1
    have hb := Tryd.strconv_FormatBool b
    go_enter Tryd.func10, Tryd.ntmps10
    go_wp2_with (go_at_call 16; refine (hb _).mono ?_; rintro e w1 ⟨rfl, rfl⟩)
    go_ret
    exact ⟨by simp [JV.txt], (Chg.refl _ w).alloc _⟩
  | num n =>
    simp only [JV.Rep] at hr
    obtain ⟨h1, a1, a3, a4, a5, rfl⟩ := hr
    clear h1
    simp only [JV.ok] at hok
    have HF := fun W h => formatInt_c n hok.1 hok.2 W h
    have HT := fun o => ht.same ((Chg.refl _ w).alloc o)
    clear hok
    go_enter Tryd.func10, Tryd.ntmps10
    go_wp2_with (go_at_call 17; refine (HF _ (HT _)).mono ?_; rintro e w1 ⟨rfl, hc⟩)
    go_ret
    exact ⟨by simp [JV.txt], ((Chg.refl _ w).alloc _).trans hc⟩
  | text s =>
    simp only [JV.Rep] at hr
    obtain ⟨h1, a1, a3, a4, a5, rfl⟩ := hr
    clear h1
    have hs := quoteT_ge s
    simp only [JV.txt] at hl
    have HQ := fun W => quote_ok s W (by omega)
    clear hl hs
    go_enter Tryd.func10, Tryd.ntmps10
    go_wp2_with (go_at_call 18; refine (HQ _).mono ?_; rintro e w1 ⟨rfl, hc⟩)
    go_ret
    exact ⟨by simp [JV.txt], ((Chg.refl _ w).alloc _).trans hc⟩
  | row l => exact hj.elim
  | thing ns l => exact hj.elim

def strs (ts : List (List UInt8)) : List Value := ts.map fun t => .string ⟨t.toArray⟩
theorem strs_len (ts : List (List UInt8)) : (strs ts).length = ts.length := by simp [strs]
theorem strs_snoc (ts : List (List UInt8)) (k : Nat) (t : List UInt8) (h : ts[k]? = some t) : strs (ts.take (k + 1)) = strs (ts.take k) ++ [.string ⟨t.toArray⟩] := by
  simp [strs, List.take_add_one, h]
theorem bytes_app (a b : List UInt8) : (⟨a.toArray⟩ ++ ⟨b.toArray⟩ : ByteArray) = ⟨(a ++ b).toArray⟩ := by
  apply ByteArray.ext
  simp [ByteArray.data_append]
theorem join_c (v : Value) (ts : List (List UInt8)) (w : World) (hv : Reads w 1 v ts.length (strs ts)) (hl : (Lib.join ts [44]).length ≤ 1000000000) :
    Calls Tryd.prog 19 #[v, .string ⟨#[44]⟩] w fun e w' => e = .returned (.string ⟨(Lib.join ts [44]).toArray⟩) ∧ Chg (fun _ => False) w w' := by
  have hcnt := join_count ts
  rcases hv.2 with ⟨rfl, h0⟩ | ⟨g, o, c, rfl, g1, g2, g3, g4⟩
  · have : ts = [] := List.length_eq_zero_iff.1 h0
    subst this
    exact (Tryd.strings_Join_none none 0 ⟨#[44]⟩ w).mono fun _ _ ⟨he, hw⟩ => ⟨he, hw ▸ Chg.refl _ _⟩
  · have e1 : (ts.map fun t => (⟨t.toArray⟩ : ByteArray)).map (·.data.toList) = ts := by
      rw [List.map_map]; exact (List.map_congr_left fun _ _ => rfl).trans (List.map_id ts)
    have h := Tryd.strings_Join g o c (ts.map fun t => (⟨t.toArray⟩ : ByteArray)) ⟨#[44]⟩ w (fun j x hx => g4 j _ (by
      rw [List.getElem?_map] at hx
      obtain ⟨t, ht, rfl⟩ := Option.map_eq_some_iff.1 hx
      simp [strs, ht])) g3 (by simp; omega) (by simpa using g1) (by rw [e1]; exact Nat.le_trans hl (by omega))
    rw [e1, List.length_map] at h
    exact h.mono fun _ _ ⟨he, hb⟩ => ⟨he, chg_of_below hb⟩
end Go.Proofs.YtmnnahkaenikkaaDoor
