/- The acts of layer 16: Few. -/
import Derived.Test.YtmnnahkaenikkaaPurge2
namespace Go.Proofs.Ytmnnahkaenikkaa
open Go.RowKit Go.Cat
/-- A row of points that came in; one without room may bear any address. -/
def PtsZ (w : World) (v : Value) (l : List Pt) : Prop := Pts w v l ∨ (l = [] ∧ ∃ a c, v = .slice a 0 c)
theorem PtsZ.form {w : World} {v : Value} {l : List Pt} (h : PtsZ w v l) : ∃ a c, v = .slice a l.length c := by
  rcases h with h | ⟨rfl, a, c, rfl⟩
  · exact h.form
  · exact ⟨a, c, rfl⟩
theorem PtsZ.same {w w' : World} {v : Value} {l : List Pt} (h : PtsZ w v l) (c : Chg (fun _ => False) w w') : PtsZ w' v l := by
  rcases h with h | h
  · exact .inl (Reads.kept h c (fun _ _ h => h))
  · exact .inr h
structure Act16 where
  kind : Int
  at_ : Int
  lv : Value
  l : List Pt
  lo : Int
  hi : Int
def Act16.cells (a : Act16) : List Value := [.int .i64 a.kind, .int .i64 a.at_, a.lv, .int .i64 a.lo, .int .i64 a.hi]
@[simp] theorem Act16.cells_length (a : Act16) : a.cells.length = 5 := rfl
/-- Acts that came in. -/
structure Acts16 (w : World) (v : Value) (L : List Act16) : Prop where
  rd : Reads w 5 v L.length (L.flatMap Act16.cells)
  pts : ∀ a ∈ L, PtsZ w a.lv a.l
  ats : ∀ a ∈ L, in64 a.at_
  vals : ∀ a ∈ L, ∀ p ∈ a.l, in64 p.val
theorem Acts16.same {w w' : World} {v : Value} {L : List Act16} (h : Acts16 w v L) (c : Chg (fun _ => False) w w') : Acts16 w' v L := ⟨Reads.kept h.rd c (fun _ _ h => h), fun a ha => (h.pts a ha).same c, h.ats, h.vals⟩
def few1 (a : Act16) : Bool := decide (a.l.length ≤ 40 ∧ a.at_ ≤ 200000)
def few16 (L : List Act16) (m : Int) : Bool := L.all few1 && decide ((L.length : Int) ≤ m)
theorem load_act (w : World) {L : List Act16} {g o i : Nat} {p : Act16} (hc : ∀ j u, (L.flatMap Act16.cells)[j]? = some u → w.cell? ⟨g, o + j, none⟩ = some u) (hp : L[i]? = some p) :
    (Instr.loadAt 72 (.pointer (some ⟨g, o + i * 5, none⟩))).run Try.prog w = .ok (.agg #[.int .i64 p.kind, .int .i64 p.at_, p.lv, .int .i64 p.lo, .int .i64 p.hi]) w :=
  run_loadAt_agg w _ _ g (o + i * 5) p.cells Try.underlying72 rfl (by kernel_rfl) fun j u hj => by
    have hlt := (List.getElem?_eq_some_iff.1 hj).1
    rw [Nat.add_assoc]
    exact hc (i * 5 + j) u ((rows_at L (s := 5) (f := Act16.cells) (fun _ _ => rfl) i j p hp hlt).trans hj)
set_option maxRecDepth 100000 in
set_option maxHeartbeats 1000000 in
theorem few_c (w : World) (v : Value) (L : List Act16) (m : Int) (h : Acts16 w v L) (hl : L.length ≤ 9223372036854775807) :
    Calls Try.prog 7 #[v, .int .i64 m] w fun e w' => e = .returned (.bool (few16 L m)) ∧ Chg (fun _ => False) w w' := by
  obtain ⟨va, vc, rfl⟩ := Reads.form h.rd
  obtain ⟨n, hn⟩ : ∃ n, n = L.length := ⟨_, rfl⟩
  have HN := Lib.hid hn
  have HR : Hid (Reads w 5 (.slice va n vc) n (L.flatMap Act16.cells)) := by have := h.rd; rw [← hn] at this; exact this
  have HP := Lib.hid h.pts
  rw [← hn] at hl ⊢
  have hz : (1 : Int) ≤ 1 := by omega
  clear h hn
  go_enter Try.func7, Try.ntmps7
  go_wp2_with fail
  go_loopw [9] (fun ci wr => ∃ k : Nat, k ≤ n ∧ ci = .int .i64 k ∧ Hid ((L.take k).all few1 = true) ∧ Hid (Chg (fun _ => False) w wr)) (fun ci _ => n - (intOf ci).toNat)
  case atStart => exact ⟨0, by omega, rfl, by simp [Hid], Chg.refl _ _⟩
  case round =>
    obtain ⟨k, hk, rfl, hA, hC⟩ := hrel
    by_cases hlt : k < n
    · obtain ⟨p, hp⟩ := at_lt (show k < L.length by rw [← HN.out]; exact hlt)
      obtain ⟨g, o, rfl, g1, g2, g3⟩ := reads_some (n := n) HR.out (by omega)
      have hld := load_act wr (fun j u hj => hC.out.cell (g3 j u hj) (fun h => h)) hp
      have e1 : L.take (k + 1) = L.take k ++ [p] := by rw [List.take_add_one, hp]; rfl
      obtain ⟨pa, pc, hlv⟩ := (HP.out p (List.mem_of_getElem? hp)).form
      rw [hlv] at hld
      have e2 : (L.take (k + 1)).all few1 = few1 p := by rw [e1, List.all_append, hA.out]; simp
      have E2 := Lib.hid e2
      have hmem := Lib.hid (List.mem_of_getElem? hp)
      have cb : Hid (Chg (fun _ => False) w (wr.alloc (.cells #[.int .i64 p.kind, .int .i64 p.at_, .slice pa p.l.length pc, .int .i64 p.lo, .int .i64 p.hi] 72))) := hC.out.alloc _
      have hno : Hid (few1 p = false → false = few16 L m) := fun h => by
        unfold few16
        have : L.all few1 = false := by
          rw [List.all_eq_false]
          exact ⟨p, hmem.out, by rw [h]; simp⟩
        rw [this]; rfl
      have q1 : (wr.alloc (.cells #[.int .i64 p.kind, .int .i64 p.at_, .slice pa p.l.length pc, .int .i64 p.lo, .int .i64 p.hi] 72)).cell? ⟨wr.heap.size, 1, none⟩ = some (.int .i64 p.at_) := by rw [World.cell?_alloc_new]; rfl
      have q2 : (wr.alloc (.cells #[.int .i64 p.kind, .int .i64 p.at_, .slice pa p.l.length pc, .int .i64 p.lo, .int .i64 p.hi] 72)).cell? ⟨wr.heap.size, 2, none⟩ = some (.slice pa p.l.length pc) := by rw [World.cell?_alloc_new]; rfl
      clear e1 e2 g1 g2 g3 hp hlv
      by_cases h1 : p.l.length ≤ 40
      · have i1 : ¬ (40 : Int) < p.l.length := by omega
        by_cases h2 : p.at_ ≤ 200000
        · have i2 : ¬ (200000 : Int) < p.at_ := by omega
          have HT : Hid ((L.take (k + 1)).all few1 = true) := by show _ = _; rw [E2.out]; exact decide_eq_true ⟨h1, h2⟩
          go_wp2_with (first | refine wpList_load rfl 72 _ rfl _ _ rfl hld ?_)
          exact ⟨⟨k + 1, by omega, rfl, HT.out, cb.out⟩, by simp only [intOf]; omega⟩
        · have i2 : (200000 : Int) < p.at_ := by omega
          have HF := Lib.hid (hno.out (decide_eq_false (fun h => h2 h.2)))
          go_wp2_with (first | refine wpList_load rfl 72 _ rfl _ _ rfl hld ?_)
          go_ret
          exact ⟨by rw [← HF.out]; rfl, cb.out⟩
      · have i1 : (40 : Int) < p.l.length := by omega
        have HF := Lib.hid (hno.out (decide_eq_false (fun h => h1 h.1)))
        go_wp2_with (first | refine wpList_load rfl 72 _ rfl _ _ rfl hld ?_)
        go_ret
        exact ⟨by rw [← HF.out]; rfl, cb.out⟩
    · obtain rfl : k = n := by omega
      have HT : Hid (few16 L m = decide ((k : Int) ≤ m)) := by
        have h := hA.out
        rw [HN.out, List.take_length] at h
        show (L.all few1 && _) = _
        rw [h, HN.out]; rfl
      go_wp2_with fail
      go_ret
      exact ⟨by rw [HT.out]; rfl, hC.out⟩
end Go.Proofs.Ytmnnahkaenikkaa
