/- Contracts of package command: a coder that writes: points. -/
import Derived.Test.YtjhkhdockiocgaaCmd2
namespace Go.Proofs.Ytjhkhdockiocgaa
open Go.RowKit Go.Cat

/-- A point: tick, value. -/
structure Pnt where
  at_ : Int
  val : Int
deriving DecidableEq
def Pnt.cells (p : Pnt) : List Value := [.int .i64 p.at_, .int .i64 p.val]
@[simp] theorem Pnt.cells_length (p : Pnt) : p.cells.length = 2 := rfl
def Pnt.enc (p : Pnt) : List UInt8 := i8 p.at_ ++ i8 p.val
@[simp] theorem Pnt.enc_length (p : Pnt) : p.enc.length = 16 := by simp [Pnt.enc]
def penc (ps : List Pnt) : List UInt8 := ps.flatMap Pnt.enc
theorem penc_length : ∀ ps : List Pnt, (penc ps).length = 16 * ps.length
  | [] => rfl
  | p :: ps => by
    have := penc_length ps
    simp only [penc, List.flatMap_cons, List.length_append, Pnt.enc_length, List.length_cons] at *
    omega
def pstep (st : List UInt8 × Int) (ps : List Pnt) : List UInt8 × Int := if 255 < ps.length then (st.1, 12) else (st.1 ++ be ps.length 2 ++ penc ps, st.2)
theorem load_pts (w : World) (p : Addr) (a : Option Addr) (n c : Nat) (h : w.cell? p = some (.slice a n c)) (hp : p.spot = none := by rfl) : (Instr.loadAt 22 (.pointer (some p))).run Try.prog w = .ok (.slice a n c) w := by
  obtain ⟨b, o, s⟩ := p
  simp only at hp; subst hp
  go_simp

set_option maxRecDepth 100000 in
set_option maxHeartbeats 1000000 in
theorem pput_any (p : Pnt) (w : World) (Sw : Nat → Prop) (b : Nat) (l : List UInt8) (hw : WriterAt w Sw b l) (hS : ∀ k, Sw k → k < w.heap.size) (hl : l.length ≤ 1000000000) :
    Calls Try.prog 130 #[.pointer (some ⟨b, 0, none⟩), .agg #[.int .i64 p.at_, .int .i64 p.val]] w fun e w' => e = .returned (.tuple #[]) ∧ WriterAt w' (ext Sw w w') b (l ++ p.enc) ∧ Chg Sw w w' := by
  obtain ⟨x, y⟩ := p
  show Calls Try.prog 130 #[.pointer (some ⟨b, 0, none⟩), .agg #[.int .i64 x, .int .i64 y]] w _
  have hw1 : WriterAt (w.alloc (.cells #[.int .i64 x, .int .i64 y] 116)) Sw b l := hw.alloc _
  have H1 := Lib.hid hw1
  have c0 : Chg Sw w (w.alloc (.cells #[.int .i64 x, .int .i64 y] 116)) := (Chg.refl Sw w).alloc _
  have hnS : ¬ Sw w.heap.size := fun h => by have := hS _ h; omega
  clear hw hw1
  go_enter Try.func130, Try.ntmps130
  go_wp2_with fail
  refine (wint_any x _ Sw b l H1.out (by omega)).mono ?_
  rintro e w2 ⟨rfl, h2, c2⟩
  have H2 := Lib.hid h2
  clear h2
  have q1 : w2.cell? ⟨w.heap.size, 1, none⟩ = some (.int .i64 y) := c2.cell (by rw [cell_of_heap (heap_at_new _ _ _ rfl)]; rfl) hnS
  have z2 := c2.size
  simp only [World.size_alloc] at z2
  go_wp2_with fail
  refine (wint_any y _ _ b _ H2.out (by simp; omega)).mono ?_
  rintro e w3 ⟨rfl, h3, c3⟩
  go_wp2_with fail
  go_end0
  have z3 := c3.size
  refine ⟨rfl, ?_, c0.trans (c2.trans_ext c3)⟩
  have h4 : WriterAt w3 (ext Sw w w3) b (l ++ be (x % 18446744073709551616).toNat 8 ++ be (y % 18446744073709551616).toNat 8) := h3.mono (fun k hk => by
    rcases hk with (hk | hk) | hk
    · exact .inl hk
    · exact .inr ⟨by have := hk.1; simp at this; omega, by have := hk.2; omega⟩
    · exact .inr ⟨by omega, hk.2⟩)
  rw [List.append_assoc] at h4
  exact h4

set_option maxRecDepth 100000 in
set_option maxHeartbeats 1000000 in
theorem oput_any (v : Value) (ps : List Pnt) (w : World) (Sw : Nat → Prop) (b : Nat) (l : List UInt8) (hw : WriterAt w Sw b l) (hS : ∀ k, Sw k → k < w.heap.size) (hv : Reads w 2 v ps.length (ps.flatMap Pnt.cells)) (hvS : ∀ k, v.ownBlock = some k → ¬ Sw k) (hl : l.length ≤ 100000000) (hn : ps.length ≤ 65535) :
    Calls Try.prog 129 #[.pointer (some ⟨b, 0, none⟩), v, .func (.func 130) #[] #[]] w fun e w' => e = .returned (.int .i64 0) ∧ WriterAt w' (ext Sw w w') b (l ++ be ps.length 2 ++ penc ps) ∧ Chg Sw w w' := by
  obtain ⟨va, vc, rfl⟩ := hv.form
  obtain ⟨n, hnn⟩ : ∃ n, n = ps.length := ⟨_, rfl⟩
  rw [← hnn] at hv hn ⊢
  have HV := Lib.hid hv
  have HW := Lib.hid hw
  have HS := Lib.hid hS
  have HVS : Hid (∀ k, (Value.slice va n vc).ownBlock = some k → ¬ Sw k) := by rw [hnn]; exact hvS
  have HN := Lib.hid hnn
  have g1 : ¬ (65535 : Int) < n := by omega
  clear hv hw hS hvS hnn
  go_enter Try.func129, Try.ntmps129
  go_wp2_with fail
  refine (num_yes n 2 w Sw b l (by omega) (by omega) (by omega) (by simp; omega) HW.out (by omega)).mono ?_
  rintro e w1 ⟨rfl, h1, c1⟩
  simp only [Int.toNat_natCast] at h1
  have H1 := Lib.hid h1
  have z1 := c1.size
  clear h1 g1
  go_wp2_with fail
  go_loopw [8, 23] (fun _ i wr => ∃ k : Nat, k ≤ n ∧ i = .int .i64 k ∧ Hid (WriterAt wr (ext Sw w wr) b (l ++ be n 2 ++ penc (ps.take k))) ∧ Hid (Chg Sw w wr)) (fun _ i _ => n - (intOf i).toNat)
  case atStart =>
    exact ⟨0, by omega, rfl, (show WriterAt w1 (ext Sw w w1) b (l ++ be n 2 ++ penc (ps.take 0)) by simpa [penc] using H1.out), c1⟩
  case round =>
    obtain ⟨k, hk, rfl, hW, hG⟩ := hrel
    by_cases hlt : k < n
    · obtain ⟨p, hpk⟩ : ∃ p, ps[k]? = some p := ⟨_, List.getElem?_eq_getElem (by rw [← HN.out]; exact hlt)⟩
      have hvr := HV.out.kept hG.out HVS.out
      obtain ⟨g, o, rfl⟩ : ∃ g o, va = some ⟨g, o, none⟩ := by
        rcases hvr.2 with ⟨hv, h0⟩ | ⟨g, o, c', hv, _⟩
        · omega
        · simp only [Value.slice.injEq] at hv; exact ⟨g, o, hv.1⟩
      have hcell : ∀ c u, c < 2 → p.cells[c]? = some u → wr.cell? ⟨g, o + (k * 2 + c), none⟩ = some u := by
        intro c u hc hu
        rcases hvr.2 with ⟨hv, h0⟩ | ⟨g', o', c', hv, _, _, _, h4⟩
        · simp at hv
        · simp only [Value.slice.injEq, Option.some.injEq, Addr.mk.injEq, and_true] at hv
          obtain ⟨⟨rfl, rfl⟩, _⟩ := hv
          exact h4 (k * 2 + c) u (by rw [rows_at (s := 2) (f := Pnt.cells) ps (fun _ _ => rfl) k c p hpk hc]; exact hu)
      have hst : penc (ps.take (k + 1)) = penc (ps.take k) ++ p.enc := by
        rw [List.take_add_one, hpk, Option.toList_some]; simp [penc]
      have hlen : (penc (ps.take k)).length ≤ 16 * 65535 := by
        rw [penc_length]
        have : (ps.take k).length ≤ k := by simp; omega
        omega
      obtain ⟨x, y⟩ := p
      have a0 : wr.cell? ⟨g, o + k * 2, none⟩ = some (.int .i64 x) := hcell 0 _ (by omega) rfl
      have a1 : wr.cell? ⟨g, o + k * 2 + 1, none⟩ = some (.int .i64 y) := hcell 1 _ (by omega) rfl
      have hkI : (k : Int) < n := by omega
      have hw1 : wrap64 ((k : Int) + 1) = (k : Int) + 1 := by unfold wrap64; omega
      have HST := Lib.hid hst
      have zG := hG.out.size
      have ONE := Lib.hid (fun w' h hS' => pput_any ⟨x, y⟩ w' (ext Sw w wr) b (l ++ be n 2 ++ penc (ps.take k)) h hS' (by simp; omega))
      clear hst hvr hcell hpk
      go_wp2_with fail
      refine (ONE.out _ (hW.out.alloc _) (fun q hq => ?_)).mono ?_
      · rcases hq with hq | hq
        · have := HS.out q hq; simp; omega
        · have := hq.2; simp; omega
      rintro e' w2 ⟨rfl, h2, c2⟩
      have z2 := c2.size
      simp only [World.size_alloc] at z2
      have h3 : Hid (WriterAt w2 (ext Sw w w2) b (l ++ be n 2 ++ penc (ps.take (k + 1)))) := by
        rw [HST.out, ← List.append_assoc]
        refine h2.mono (fun q hq => ?_)
        rcases hq with (hq | hq) | hq
        · exact .inl hq
        · exact .inr ⟨hq.1, by omega⟩
        · exact .inr ⟨by have := hq.1; simp at this; omega, hq.2⟩
      have hG2 : Hid (Chg Sw w w2) := (hG.out.alloc _).trans' c2 (fun i hi hs => ext_old hs hi)
      clear h2
      go_wp2_with fail
      exact ⟨⟨k + 1, by omega, rfl, h3.out, hG2.out⟩, by simp only [intOf]; omega⟩
    · obtain rfl : k = n := by omega
      have h9 := hW.out
      rw [List.take_of_length_le (by rw [HN.out]; exact Nat.le_refl _)] at h9
      have H9 := Lib.hid h9
      clear h9
      go_wp2_with fail
      go_ret
      exact ⟨rfl, H9.out, hG.out⟩

set_option maxRecDepth 100000 in
set_option maxHeartbeats 1000000 in
theorem cpoints_any (w0 w : World) (Sw : Nat → Prop) (c b : Nat) (l : List UInt8) (e : Int) (v : Value) (ps : List Pnt) (B o : Nat) (h : CodS w0 w Sw c b l e) (hp : w0.cell? ⟨B, o, none⟩ = some v) (hv : Reads w0 2 v ps.length (ps.flatMap Pnt.cells)) (hl : l.length ≤ 100000000) :
    Calls Try.prog 103 #[.pointer (some ⟨c, 0, none⟩), .pointer (some ⟨B, o, none⟩)] w fun e' w' => e' = .returned (.tuple #[]) ∧ CodS w0 w' (ext Sw w w') c b (pstep (l, e) ps).1 (pstep (l, e) ps).2 ∧ Chg (SC Sw c) w w' := by
  obtain ⟨va, vc, rfl⟩ := hv.form
  have H := Lib.hid h
  obtain ⟨T, h1, h2, h3, h4, h5⟩ := h
  have hx := h5.cell hp (fun h => h)
  have c1 : w.cell? ⟨c, 1, none⟩ = some (.pointer none) := by rw [cell_of_heap h1]; rfl
  have c2 : w.cell? ⟨c, 2, none⟩ = some (.int .i64 e) := by rw [cell_of_heap h1]; rfl
  have cf := frozen_of_heap h1
  have hcS : ¬ Sw c := fun hs => (h3 c hs).2.2 rfl
  have hBS : ¬ Sw B := fun hs => by have h6 := (h3 B hs).1; have h7 := World.block_lt_of_cell? w0 _ hp; simp only at h7; omega
  have HC := Lib.hid h1
  have HX := Lib.hid hx
  have HW := Lib.hid h2
  have HV := Lib.hid (hv.kept h5 (fun _ _ h => h))
  have HVS : Hid (∀ k, (Value.slice va ps.length vc).ownBlock = some k → ¬ Sw k) := fun k hk hs => by have := (h3 k hs).1; have := hv.lt k hk; omega
  have HSS : Hid (∀ k, Sw k → k < w.heap.size) := fun k hk => (h3 k hk).2.1
  clear h1 h2 h3 h5 hp hv
  by_cases hlong : 255 < ps.length
  · have i1 : (255 : Int) < ps.length := by omega
    have ht : pstep (l, e) ps = (l, 12) := if_pos hlong
    have HT := Lib.hid ht
    clear ht
    go_enter Try.func103, Try.ntmps103
    go_wp2_with fail
    first | go_end0 | refine bodyPost_ret (v := .tuple #[]) (results_none rfl _ _ _) rfl ?_
    rw [HT.out]
    obtain ⟨r1, r2⟩ := H.out.bad 12
    exact ⟨rfl, r1, r2⟩
  · have i1 : ¬ (255 : Int) < ps.length := by omega
    have ht : pstep (l, e) ps = (l ++ be ps.length 2 ++ penc ps, e) := if_neg hlong
    have HT := Lib.hid ht
    clear ht
    go_enter Try.func103, Try.ntmps103
    go_wp2_with fail
    clear hx
    refine wpT.begin (fun k => Sw k) 8 (by kernel_rfl) rfl ?_
    refine wpT.take 0 rfl (by kernel_rfl) (fun _ _ _ h => h) rfl (fun w' hw' => by go_simp <;> with_reducible rfl) ?_
    simp only [Act.put, List.setIfInBounds_toArray, List.set_cons_zero, List.set_cons_succ]
    refine wpT.take 1 rfl (by kernel_rfl) (fun _ _ _ h => h) rfl (fun w' hw' => by go_simp <;> with_reducible rfl) ?_
    simp only [Act.put, List.setIfInBounds_toArray, List.set_cons_zero, List.set_cons_succ]
    refine wpT.take 2 rfl (by kernel_rfl) (fun _ _ _ h => h) rfl (fun w' hw' => by go_simp <;> with_reducible rfl) ?_
    simp only [Act.put, List.setIfInBounds_toArray, List.set_cons_zero, List.set_cons_succ]
    refine wpT.take 3 rfl (by kernel_rfl) (fun _ _ _ h => h) rfl (fun w' hw' => by exact exec_load _ _ _ _ rfl rfl (load_wp w' _ _ (((Chg.refl Sw w).drew.trans hw').cell (by rw [cell_of_heap HC.out]; rfl) hcS))) ?_
    simp only [Act.put, List.setIfInBounds_toArray, List.set_cons_zero, List.set_cons_succ]
    refine wpT.take 4 rfl (by kernel_rfl) (fun _ _ _ h => h) rfl (fun w' hw' => by go_simp <;> with_reducible rfl) ?_
    simp only [Act.put, List.setIfInBounds_toArray, List.set_cons_zero, List.set_cons_succ]
    refine wpT.take 5 rfl (by kernel_rfl) (fun _ _ _ h => h) rfl (fun w' hw' => by go_simp <;> with_reducible rfl) ?_
    simp only [Act.put, List.setIfInBounds_toArray, List.set_cons_zero, List.set_cons_succ]
    refine wpT.take 6 rfl (by kernel_rfl) (fun _ _ _ h => h) rfl (fun w' hw' => by exact exec_load _ _ _ _ rfl rfl (load_pts w' _ _ _ _ (((Chg.refl Sw w).drew.trans hw').cell HX.out hBS))) ?_
    simp only [Act.put, List.setIfInBounds_toArray, List.set_cons_zero, List.set_cons_succ]
    refine wpT.call 7 rfl (by kernel_rfl) rfl (fun K hK => ?_)
    go_wp2_with fail
    refine (oput_any _ ps w.drew Sw b l (HW.out.kept (T := fun _ => False) (Chg.refl _ w).drew (fun _ _ h => h)) HSS.out (HV.out.kept (S := fun _ => False) (Chg.refl _ w).drew (fun _ _ h => h)) HVS.out (by omega) (by omega)).mono ?_
    rintro e' w2 ⟨rfl, hw2, c2⟩
    refine hK _ _ c2 ?_
    clear hK
    refine wpT.done (by kernel_rfl) ?_
    go_wp2_with fail
    go_end0
    rw [HT.out]
    obtain ⟨r1, r2⟩ := H.out.wrote (l' := l ++ be ps.length 2 ++ penc ps) hw2 ((Chg.refl Sw w).drew.trans c2)
    exact ⟨rfl, r1, r2⟩
end Go.Proofs.Ytjhkhdockiocgaa
