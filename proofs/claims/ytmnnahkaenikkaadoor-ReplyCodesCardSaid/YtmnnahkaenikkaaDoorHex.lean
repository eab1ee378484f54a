/- hex.sign, hex.Text: two signs for each byte. -/
import Derived.Test.YtmnnahkaenikkaaDoorJsonPure
import Derived.Test.YtmnnahkaenikkaaDoorShelf
import Derived.WalkKit
import Derived.BigCall
namespace Go.Cat
open Go.RowKit Go.Lib
theorem builder_same {T e : TypeId} {B b : Nat} {xs : List Value} {w w' : World} (h : IsBuilderF T e B b xs w) (c : Chg (fun _ => False) w w') : IsBuilderF T e B b xs w' := by
  have one : ∀ p, BuilderAtF T e B b p xs w → BuilderAtF T e B b p xs w' := fun p k => by
    obtain ⟨hB, v, hb, hown, hne⟩ := k
    refine ⟨hB, v, c.heap hb (fun h => h), ?_, hne⟩
    refine hown.kept (row := none) ⟨c.os, c.tape, c.output, c.size, fun k hk _ => c.block k hk (fun h => h)⟩ ?_
    cases v.ownBlock <;> simp
  rcases h with h | h
  · exact .inl (one _ h)
  · exact .inr (one _ h)
theorem chg_of_below {w w' : World} (h : Below w.heap.size w w') : Chg (fun _ => False) w w' :=
  ⟨h.os, h.tape, h.output, h.size, fun k hk _ => h.block k hk⟩
theorem byteCells_bs (l : List UInt8) : byteCells l = bs l := by
  unfold byteCells bs
  exact List.map_congr_left fun _ _ => rfl
def hexT (l : List UInt8) : List UInt8 := l.flatMap fun c => [hexd (c.toNat / 16), hexd (c.toNat % 16)]
end Go.Cat
namespace Go.Proofs.YtmnnahkaenikkaaDoor
open Go.RowKit Go.Cat
open Go.Lib (IsBuilderF byteCells fresh_isBuilder)
theorem and15 (x : Nat) (h : x < 256) : bits .and .u8 (x : Int) 15 = ((x % 16 : Nat) : Int) := by
  have : ∀ y : Fin 256, bits .and .u8 ((y.val : Nat) : Int) 15 = ((y.val % 16 : Nat) : Int) := by decide +kernel
  exact this ⟨x, h⟩
theorem sign_ok (x : Nat) (hx : x < 16) (w : World) : Calls Tryd.prog 32 #[.int .u8 x] w fun e w' => e = .returned (.int .u8 (hexd x).toNat) ∧ w = w' := by
  go_enter Tryd.func32, Tryd.ntmps32
  by_cases h : x < 10
  · have h2 : (48 : Int) + x = ((hexd x).toNat : Int) := by
      have : (hexd x).toNat = 48 + x := by simp only [hexd, h, if_true, UInt8.toNat_ofNat']; omega
      rw [this]; omega
    have h1 : (x : Int) < 10 := by omega
    go_wp2_with fail
    go_ret
    exact ⟨rfl, rfl⟩
  · have h2 : (97 : Int) + x - 10 = ((hexd x).toNat : Int) := by
      have : (hexd x).toNat = 87 + x := by simp only [hexd, h, if_false, UInt8.toNat_ofNat']; omega
      rw [this]; omega
    have h1 : ¬ (x : Int) < 10 := by omega
    go_wp2_with fail
    go_ret
    exact ⟨rfl, rfl⟩

theorem hexT_snoc (l : List UInt8) (k : Nat) (x : UInt8) (h : l[k]? = some x) : hexT (l.take (k + 1)) = hexT (l.take k) ++ [hexd (x.toNat / 16)] ++ [hexd (x.toNat % 16)] := by
  simp [hexT, List.take_add_one, h, List.flatMap_append]
theorem hexT_length (l : List UInt8) : (hexT l).length = 2 * l.length := by
  induction l with
  | nil => rfl
  | cons x r ih => simp only [hexT, List.flatMap_cons, List.length_append, List.length_cons, List.length_nil] at ih ⊢; omega
set_option maxRecDepth 100000 in
set_option maxHeartbeats 1000000 in
theorem hex_text (v : Value) (l : List UInt8) (w : World) (hv : RB w v l) (hl : l.length ≤ 1000000) :
    Calls Tryd.prog 24 #[v] w fun e w' => e = .returned (.string ⟨(hexT l).toArray⟩) ∧ Chg (fun _ => False) w w' := by
  obtain ⟨a, c, rfl⟩ := hv.form
  have hcap := hv.cap_ge
  obtain ⟨n, hn⟩ : ∃ n, n = l.length := ⟨_, rfl⟩
  rw [← hn] at hl
  have HV := Lib.hid hv
  have HN := Lib.hid hn
  rw [← hn]
  clear hv hn hcap
  go_enter Tryd.func24, Tryd.ntmps24
  go_wp2_with fail
  go_loopw [5, 8] (fun _ i wr => ∃ k : Nat, k ≤ n ∧ i = .int .i64 k ∧ IsBuilderF 55 5 w.heap.size w.heap.size (byteCells (hexT (l.take k))) wr ∧ Below w.heap.size w wr) (fun _ i _ => n - (RowKit.intOf i).toNat)
  case atStart =>
    exact ⟨0, by omega, rfl, IsBuilderF.of (fresh_isBuilder 55 5 w), (Below.refl _ w).alloc (Nat.le_refl _) _⟩
  case round =>
    obtain ⟨k, hk, rfl, hib, hbw⟩ := hrel
    have hsz := hbw.size
    have hlk : (hexT (l.take k)).length ≤ 2 * k := by rw [hexT_length, List.length_take]; omega
    by_cases hlt : k < n
    · obtain ⟨x, hx⟩ : ∃ x, l[k]? = some x := ⟨_, List.getElem?_eq_getElem (by rw [← HN.out]; exact hlt)⟩
      obtain ⟨g, o, rfl⟩ : ∃ g o, a = some ⟨g, o, none⟩ := by
        have hv := HV.out
        rcases hv.2 with ⟨hv, h0⟩ | ⟨g, o, c, hv, _⟩
        · have := HN.out; omega
        · simp only [Value.slice.injEq] at hv; exact ⟨g, o, hv.1⟩
      have hcell : wr.cell? ⟨g, o + k, none⟩ = some (.int .u8 x.toNat) := by
        have := HV.out.kept (chg_of_below hbw) (fun _ _ h => h)
        rcases this.2 with ⟨hv, h0⟩ | ⟨g', o', c, hv, g1, g2, g3, g4⟩
        · simp at hv
        · simp only [Value.slice.injEq, Option.some.injEq, Addr.mk.injEq, true_and, and_true] at hv
          obtain ⟨⟨rfl, rfl⟩, rfl⟩ := hv
          exact g4 k _ (by rw [bs_get _ _ (by rw [← HN.out]; exact hlt)]; rw [(List.getElem?_eq_some_iff.1 hx).2])
      have hx8 : x.toNat < 256 := x.toNat_lt
      have e2 := and15 x.toNat hx8
      have HX := Lib.hid hx
      clear hx
      have hdv : ((x.toNat : Int) / 2 ^ 4) = ((x.toNat / 16 : Nat) : Int) := by omega
      have s1 := fun W => sign_ok (x.toNat / 16) (by omega) W
      have s2 := fun W => sign_ok (x.toNat % 16) (by omega) W
      go_wp2_with (go_at_call 32; refine (s1 _).mono ?_; rintro e w1 ⟨rfl, rfl⟩; refine Hid.out ?_)
      refine Lib.hid ?_
      go_wp2_with (go_at_call 22; refine (Tryd.Builder_WriteByte_k w.heap.size w.heap.size _ _ _ hib (by rw [byteCells_bs, bs_length]; omega) hsz).mono ?_; rintro e w1 ⟨rfl, hi1, hb1, _⟩; refine Hid.out ?_)
      refine Lib.hid ?_
      have hsz1 := (hbw.trans hb1).size
      go_wp2_with (go_at_call 32; refine (s2 _).mono ?_; rintro e w2 ⟨rfl, rfl⟩; refine Hid.out ?_)
      refine Lib.hid ?_
      go_wp2_with (go_at_call 22; refine (Tryd.Builder_WriteByte_k w.heap.size w.heap.size _ _ _ (.inr hi1) (by rw [List.length_append, byteCells_bs, bs_length]; simp only [List.length_cons, List.length_nil]; omega) hsz1).mono ?_; rintro e w2 ⟨rfl, hi2, hb2, _⟩; refine Hid.out ?_)
      refine Lib.hid ?_
      have hd : byteCells (hexT (l.take (k + 1))) = byteCells (hexT (l.take k)) ++ [Value.int .u8 (hexd (x.toNat / 16)).toNat] ++ [Value.int .u8 (hexd (x.toNat % 16)).toNat] := by
        rw [hexT_snoc l k x HX.out]; simp [byteCells]
      rw [← hd] at hi2
      clear hd hdv
      go_wp2_with fail
      exact ⟨⟨k + 1, by omega, rfl, .inr hi2, (hbw.trans hb1).trans hb2⟩, by simp only [RowKit.intOf]; omega⟩
    · obtain rfl : k = n := by omega
      go_wp2_with (go_at_call 25; refine (Tryd.Builder_String_any_k w.heap.size w.heap.size _ _ hib (by omega)).mono ?_; rintro e w1 ⟨rfl, _, b1, _⟩)
      go_ret
      rw [HN.out, List.take_length]
      exact ⟨rfl, chg_of_below (hbw.trans b1)⟩
end Go.Proofs.YtmnnahkaenikkaaDoor
