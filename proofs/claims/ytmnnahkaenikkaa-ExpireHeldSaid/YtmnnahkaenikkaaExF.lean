/- DelF, DelF2, merged. -/
import Derived.Test.YtmnnahkaenikkaaExP
/- slices.Clone, IndexFunc, DeleteFunc at aggregates. -/
namespace Go.Proofs.Ytmnnahkaenikkaa
open Go.RowKit Go.Cat
theorem Reads.form' {w : World} {v : Value} {l : List Ag} (h : Ags w v l) : ∃ a c, v = .slice a l.length c := h.form
theorem agones (l : List Ag) : ∀ u ∈ l.flatMap Ag.cells, u.oneCell' = true := fun u hu => by
  obtain ⟨p, _, hp⟩ := List.mem_flatMap.1 hu
  exact agone p u hp
theorem eqn_ags (w : World) (a : Option Addr) (n c : Nat) : (binOp .eql 51 (.slice a n c) (.slice none 0 0)).run Try.prog w = .ok (.bool a.isNone) w := Lib.run_eql_slice_nil w _ 58 a n c 0 0 Try.underlying51
set_option maxRecDepth 100000 in
set_option maxHeartbeats 1000000 in
theorem clone_ags (w : World) (v : Value) (l : List Ag) (h : Ags w v l) (hl : l.length ≤ 1000000) :
    Calls Try.prog 70 #[v] w fun e w' => ∃ v', e = .returned v' ∧ OAgs w' v' l ∧ (∀ k, v'.ownBlock = some k → w.heap.size ≤ k) ∧ Chg (fun _ => False) w w' := by
  obtain ⟨a, c, rfl⟩ := Reads.form' h
  have eqs := fun w => eqn_ags w a l.length c
  cases a with
  | none =>
    have h0 : l.length = 0 ∧ c = 0 := by
      rcases h.2 with ⟨hv, h0⟩ | ⟨g, o, c', hv, _⟩
      · simp at hv; exact ⟨h0, hv.2⟩
      · simp at hv
    obtain rfl : l = [] := List.eq_nil_of_length_eq_zero h0.1
    obtain ⟨-, rfl⟩ := h0
    clear h
    rw [List.length_nil] at eqs ⊢
    go_enter Try.func70, Try.ntmps70
    go_wp2_with fail
    go_ret
    exact ⟨_, rfl, Owns.nil _ _, by simp [Value.ownBlock], Chg.refl _ _⟩
  | some p =>
    have H := Lib.hid h
    have H1 := Lib.hid (agones l)
    obtain ⟨n, hn⟩ : ∃ n, n = l.length := ⟨_, rfl⟩
    have HN := Lib.hid hn
    have h2 : Reads (w.alloc (.cells #[] 58)) 5 (.slice (some p) n c) n (l.flatMap Ag.cells) := by rw [hn]; exact Reads.kept h ((Chg.refl (fun _ => False) w).alloc _) (fun _ _ h => h)
    have hemp := Owns.empty w 58 5
    rw [← hn] at hl eqs ⊢
    clear h hn
    obtain ⟨i, hi, hz0, hz1, hz2⟩ := info_parts infoAg
    go_enter Try.func70, Try.ntmps70
    go_wp2_with (at_builtin; go_loud (refine wpList_app rfl _ _ 51 rfl 58 i (.agg #[.int .i64 0, .int .i64 0, .int .i64 0, .int .i64 0, .int .i64 0]) 5 40 Try.underlying51 hi hz0 hz1 hz2 rfl (.slice (some ⟨w.heap.size, 0, none⟩) 0 0) 0 [] rfl hemp (.slice (some p) n c) n (l.flatMap Ag.cells) rfl h2 H1.out (by simp only [maxLen]; omega) (by omega) ?_; intro v' w' own' c' in' nn'; refine Hid.out ?_))
    refine Lib.hid ?_
    go_wp2_with fail
    go_ret
    refine ⟨v', rfl, ?_, fun k hk => ?_, ((Chg.refl (fun _ => False) w).alloc _).new c' (fun k hk => by simp [Value.ownBlock] at hk; omega)⟩
    · show Owns _ 5 _ l.length _
      rw [← HN.out]
      simpa using own'
    · rcases in' k hk with h | h
      · simp [Value.ownBlock] at h; omega
      · rw [h]; simp
/-- A test of aggregates that hangs on what lay at w. -/
def AgFun (w : World) (fid : Nat) (caps : Array Value) (f : Ag → Bool) : Prop := ∀ W (p : Ag), 0 ≤ p.tk → p.tk ≤ 4611686018427387904 → Chg (fun _ => False) w W → Calls Try.prog fid (#[.agg #[.int .i64 p.tk, .int .i64 p.cnt, .int .i64 p.sum, .int .i64 p.mn, .int .i64 p.mx]] ++ caps) W fun e w' => e = .returned (.bool (f p)) ∧ Chg (fun _ => False) W w'
def IdxOf (l : List Ag) (f : Ag → Bool) (k : Int) : Prop := (k = -1 ∧ ∀ a ∈ l, f a = false) ∨ ∃ (n : Nat) (p : Ag), k = n ∧ l[n]? = some p ∧ f p = true ∧ ∀ a ∈ l.take n, f a = false
set_option maxRecDepth 100000 in
set_option maxHeartbeats 1000000 in
theorem index_ags (w0 w : World) (v : Value) (l : List Ag) (h : Ags w v l) (hl : l.length ≤ 1000000) (hok : ∀ a ∈ l, 0 ≤ a.tk ∧ a.tk ≤ 4611686018427387904) (x0 x1 : Value) (f : Ag → Bool) (cw : Chg (fun _ => False) w0 w) (hf : AgFun w0 71 #[x0, x1] f) :
    Calls Try.prog 85 #[v, .func (.func 71) #[] #[x0, x1]] w fun e w' => ∃ k : Int, e = .returned (.int .i64 k) ∧ IdxOf l f k ∧ Chg (fun _ => False) w w' := by
  obtain ⟨a, c, rfl⟩ := Reads.form' h
  obtain ⟨n, hn⟩ : ∃ n, n = l.length := ⟨_, rfl⟩
  have HN := Lib.hid hn
  have H := Lib.hid h
  have HF := Lib.hid hf
  have CW := Lib.hid cw
  have HOK := Lib.hid hok
  rw [← hn] at H hl ⊢
  clear hn h hf cw hok
  go_enter Try.func85, Try.ntmps85
  go_wp2_with fail
  go_loopw [8] (fun ci wr => ∃ k : Nat, k ≤ n ∧ ci = .int .i64 k ∧ Hid (∀ a ∈ l.take k, f a = false) ∧ Hid (Chg (fun _ => False) w wr)) (fun ci _ => n - (intOf ci).toNat)
  case atStart => exact ⟨0, by omega, rfl, by simp [Hid], Chg.refl _ _⟩
  case round =>
    obtain ⟨k, hk, rfl, hA, hC⟩ := hrel
    by_cases hlt : k < n
    · obtain ⟨p, hp⟩ := at_lt (show k < l.length by rw [← HN.out]; exact hlt)
      obtain ⟨g, o, rfl, h1, h2, h3⟩ := reads_some (n := n) (by have := H.out; unfold Ags at this; rw [← HN.out] at this; exact this) (by omega)
      have hld := load_agE wr (fun j u hj => hC.out.cell (h3 j u hj) (fun h => h)) hp
      have pok := HOK.out p (List.mem_of_getElem? hp)
      have FC := HF.out wr p pok.1 pok.2 (CW.out.trans hC.out)
      clear pok
      have HP := Lib.hid hp
      replace FC : Calls Try.prog 71 #[.agg #[.int .i64 p.tk, .int .i64 p.cnt, .int .i64 p.sum, .int .i64 p.mn, .int .i64 p.mx], x0, x1] wr _ := FC
      cases hfp : f p with
      | true =>
        rw [hfp] at FC
        have FC := Lib.hid FC
        have HFP := Lib.hid hfp
        clear h1 h2 h3 hp hfp
        go_wp2_with (first | refine wpList_load rfl 58 _ rfl _ _ rfl hld ?_)
        refine FC.out.mono ?_
        rintro e w2 ⟨rfl, c2⟩
        have C2 := Lib.hid (hC.out.trans c2)
        clear c2 hld
        go_wp2_with fail
        go_ret
        exact ⟨_, rfl, .inr ⟨k, p, rfl, HP.out, HFP.out, hA.out⟩, C2.out⟩
      | false =>
        rw [hfp] at FC
        have FC := Lib.hid FC
        have HA2 : Hid (∀ a ∈ l.take (k + 1), f a = false) := fun a ha => by
          rw [List.take_add_one, HP.out] at ha
          rcases List.mem_append.1 ha with h | h
          · exact hA.out a h
          · obtain rfl : a = p := by simpa using h
            exact hfp
        clear h1 h2 h3 hp hfp
        go_wp2_with (first | refine wpList_load rfl 58 _ rfl _ _ rfl hld ?_)
        refine FC.out.mono ?_
        rintro e w2 ⟨rfl, c2⟩
        have C2 := Lib.hid (hC.out.trans c2)
        clear c2 hld
        go_wp2_with fail
        exact ⟨⟨k + 1, by omega, rfl, HA2.out, C2.out⟩, by simp only [intOf]; omega⟩
    · obtain rfl : k = n := by omega
      have hA2 : Hid (∀ a ∈ l, f a = false) := by have h := hA.out; rw [HN.out, List.take_length] at h; exact h
      go_wp2_with fail
      go_ret
      exact ⟨-1, rfl, .inl ⟨rfl, hA2.out⟩, hC.out⟩
end Go.Proofs.Ytmnnahkaenikkaa

/- slices.DeleteFunc at aggregates. -/
namespace Go.Proofs.Ytmnnahkaenikkaa
open Go.RowKit Go.Cat
theorem chg_from {w0 w w' : World} (h : Chg (fun _ => False) w0 w) (h' : Chg (fun _ => False) w0 w') (hz : w.heap.size ≤ w'.heap.size) : Chg (fun k => w0.heap.size ≤ k) w w' := ⟨h'.os.trans h.os.symm, h'.tape.trans h.tape.symm, h'.output.trans h.output.symm, hz, fun k _ hk => (h'.block k (by omega) (fun h => h)).trans (h.block k (by omega) (fun h => h)).symm⟩
theorem slA_lo (w : World) (a : Option Addr) (n c lo : Nat) (h1 : lo ≤ n) :
    (Instr.sliceAt 51 (.slice a n c) (some (.int .i64 lo)) none none).run Try.prog w = .ok (.slice (if c = lo then a else a.map (·.add (lo * 5))) (n - lo) (c - lo)) w := by
  have h4 : (lo : Int) ≤ n := by omega
  simp [go_sem, Instr.sliceAt, Instr.slice, Instr.sliceBounds, h4]
theorem slA_hi (w : World) (a : Option Addr) (n c hi : Nat) (h1 : hi ≤ c) :
    (Instr.sliceAt 51 (.slice a n c) none (some (.int .i64 hi)) none).run Try.prog w = .ok (.slice a hi c) w := by
  have h4 : (hi : Int) ≤ c := by omega
  cases a <;> simp [go_sem, Instr.sliceAt, Instr.slice, Instr.sliceBounds, h4]
def keepF (f : Ag → Bool) (l : List Ag) : List Ag := l.filter fun a => !f a
theorem keep_all {f : Ag → Bool} {l : List Ag} (h : ∀ a ∈ l, f a = false) : keepF f l = l := by
  unfold keepF
  rw [List.filter_eq_self]
  intro a ha
  rw [h a ha]; rfl
theorem keep_snoc (f : Ag → Bool) (l : List Ag) (p : Ag) : keepF f (l ++ [p]) = keepF f l ++ (if f p = true then [] else [p]) := by
  unfold keepF
  rw [List.filter_append, List.filter_cons, List.filter_nil]
  cases f p <;> rfl
/-- What the row is like behind the first j. -/
structure Part (f : Ag → Bool) (l M : List Ag) (i j : Nat) : Prop where
  len : M.length = l.length
  lt : i < j
  le : j ≤ l.length
  front : M.take i = keepF f (l.take j)
  back : M.drop j = l.drop j
theorem Part.start {f : Ag → Bool} {l : List Ag} {n : Nat} {p : Ag} (h1 : l[n]? = some p) (h2 : f p = true) (h3 : ∀ a ∈ l.take n, f a = false) : Part f l l n (n + 1) := by
  have hn := (List.getElem?_eq_some_iff.1 h1).1
  refine ⟨rfl, by omega, by omega, ?_, rfl⟩
  rw [List.take_add_one, h1]
  show l.take n = keepF f (l.take n ++ [p])
  rw [keep_snoc, if_pos h2, List.append_nil, keep_all h3]
theorem Part.at {f : Ag → Bool} {l M : List Ag} {i j : Nat} (h : Part f l M i j) (hj : j < l.length) : ∃ p, l[j]? = some p ∧ M[j]? = some p ∧ l.take (j + 1) = l.take j ++ [p] := by
  obtain ⟨p, hp⟩ := at_lt hj
  refine ⟨p, hp, ?_, by rw [List.take_add_one, hp]; rfl⟩
  have e1 : (M.drop j)[0]? = (l.drop j)[0]? := by rw [h.back]
  rw [List.getElem?_drop, List.getElem?_drop] at e1
  simpa [hp] using e1
theorem drop_step {l M : List Ag} {j : Nat} (h : M.drop j = l.drop j) : M.drop (j + 1) = l.drop (j + 1) := by
  rw [← List.drop_drop, ← List.drop_drop, h]
theorem Part.skip {f : Ag → Bool} {l M : List Ag} {i j : Nat} (h : Part f l M i j) {p : Ag} (hp : l[j]? = some p) (hf : f p = true) : Part f l M i (j + 1) := by
  have hj := (List.getElem?_eq_some_iff.1 hp).1
  refine ⟨h.len, by have := h.lt; omega, by omega, ?_, drop_step h.back⟩
  rw [h.front, List.take_add_one, hp]
  show _ = keepF f (l.take j ++ [p])
  rw [keep_snoc, if_pos hf, List.append_nil]
theorem Part.put {f : Ag → Bool} {l M : List Ag} {i j : Nat} (h : Part f l M i j) {p : Ag} (hp : l[j]? = some p) (hf : f p = false) : Part f l (M.set i p) (i + 1) (j + 1) := by
  have hj := (List.getElem?_eq_some_iff.1 hp).1
  have hi := h.lt
  have hl := h.len
  refine ⟨by rw [List.length_set, hl], by omega, by omega, ?_, ?_⟩
  · have e : (M.set i p).take (i + 1) = M.take i ++ [p] := by
      rw [List.take_add_one, List.getElem?_set_self (by omega), List.take_set_of_le (by omega)]
      rfl
    rw [e, h.front, List.take_add_one, hp]
    show _ = keepF f (l.take j ++ [p])
    rw [keep_snoc, if_neg (by rw [hf]; simp)]
  · rw [List.drop_set_of_lt (by omega)]
    exact drop_step h.back
set_option maxRecDepth 100000 in
set_option maxHeartbeats 4000000 in
theorem delf_ags (w0 w : World) (v : Value) (l : List Ag) (h : OAgs w v l) (hl : l.length ≤ 1000000) (hok : ∀ a ∈ l, 0 ≤ a.tk ∧ a.tk ≤ 4611686018427387904) (hfr : ∀ k, v.ownBlock = some k → w0.heap.size ≤ k) (x0 x1 : Value) (f : Ag → Bool) (cw : Chg (fun _ => False) w0 w) (hf : AgFun w0 71 #[x0, x1] f) :
    Calls Try.prog 69 #[v, .func (.func 71) #[] #[x0, x1]] w fun e w' => ∃ v', e = .returned v' ∧ OAgs w' v' (keepF f l) ∧ (∀ k, v'.ownBlock = some k → w0.heap.size ≤ k) ∧ Chg (fun _ => False) w0 w' ∧ w.heap.size ≤ w'.heap.size := by
  have IX := Lib.hid (index_ags w0 w v l (Owns.reads h) hl hok x0 x1 f cw hf)
  obtain ⟨a, c, hv⟩ := Owns.form h
  obtain ⟨n, hn⟩ : ∃ n, n = l.length := ⟨_, rfl⟩
  have HN := Lib.hid hn
  have H := Lib.hid h
  have HF := Lib.hid hf
  have CW := Lib.hid cw
  have HFR := Lib.hid hfr
  rw [← hn] at hv hl
  subst hv
  have HOK := Lib.hid hok
  clear hn h hf cw hfr hok
  go_enter Try.func69, Try.ntmps69
  go_wp2_with fail
  refine IX.out.mono ?_
  rintro e w1 ⟨k, rfl, hk, c1⟩
  have C1 := Lib.hid (CW.out.trans c1)
  have Z1 := Lib.hid c1.size
  have O1 : Hid (Owns w1 5 (.slice a n c) n (l.flatMap Ag.cells)) := by
    have h := Owns.kept H.out c1 (fun _ _ h => h)
    rw [← HN.out] at h
    exact h
  rcases hk with ⟨rfl, hall⟩ | ⟨n0, p0, rfl, hp0, hfp0, hbe⟩
  · have HK := Lib.hid (keep_all hall)
    clear hall c1 IX
    go_wp2_with fail
    go_ret
    refine ⟨_, rfl, ?_, HFR.out, C1.out, Z1.out⟩
    rw [HK.out]
    show Owns _ _ _ _ _
    rw [← HN.out]
    exact O1.out
  · have hn0 := (List.getElem?_eq_some_iff.1 hp0).1
    rw [← HN.out] at hn0
    have PS := Lib.hid (Part.start hp0 hfp0 hbe)
    obtain ⟨g, o, rfl, hnc, hg, -⟩ := reads_some (n := n) O1.out.reads (by omega)
    have hcm : c ≤ maxLen := by
      rcases O1.out.2 with ⟨hv, _⟩ | ⟨g', o', c', hv, _, h2, _⟩
      · simp at hv
      · simp only [Value.slice.injEq, true_and] at hv; omega
    have hgf := Lib.hid (HFR.out g rfl)
    have i1 : ((n0 : Int) == -1) = false := by simp
    have hw1 : wrap64 ((n0 : Int) + 1) = ((n0 + 1 : Nat) : Int) := by unfold wrap64; omega
    clear hp0 hfp0 hbe c1 IX hg
    go_wp2_with fail
    go_loopw [5, 6] (fun iv jv wr => ∃ (i j : Nat) (M : List Ag), iv = .int .i64 i ∧ jv = .int .i64 j ∧ j ≤ n ∧ i < j ∧ Hid (Part f l M i j) ∧ Hid (Owns wr 5 (.slice (some ⟨g, o, none⟩) n c) n (M.flatMap Ag.cells)) ∧ Hid (Chg (fun _ => False) w0 wr) ∧ Hid (w.heap.size ≤ wr.heap.size)) (fun _ jv _ => n - (intOf jv).toNat)
    case atStart => exact ⟨n0, n0 + 1, l, rfl, rfl, by omega, by omega, PS.out, O1.out, C1.out, Z1.out⟩
    case round =>
      obtain ⟨i, j, M, rfl, rfl, hj, hij, hP, hO, hC, hZ⟩ := hrel
      clear i1 hw1
      by_cases hlt : j < n
      · obtain ⟨p, hp, hMp, e1⟩ := hP.out.at (by rw [← HN.out]; exact hlt)
        obtain ⟨g', o', hv', g1, g2, g3⟩ := reads_some (n := n) hO.out.reads (by omega)
        cases hv'
        have hld := load_agE wr g3 hMp
        obtain ⟨Wb, hWb⟩ : ∃ W, W = wr.alloc (.cells #[.int .i64 p.tk, .int .i64 p.cnt, .int .i64 p.sum, .int .i64 p.mn, .int .i64 p.mx] 58) := ⟨_, rfl⟩
        have cb : Chg (fun _ => False) wr Wb := by rw [hWb]; exact (Chg.refl _ wr).alloc _
        have hPp : AgAt Wb wr.heap.size p := by rw [hWb]; exact ag_new wr p
        have pok := HOK.out p (List.mem_of_getElem? hp)
        have FC := HF.out Wb p pok.1 pok.2 (hC.out.trans cb)
        clear pok
        replace FC : Calls Try.prog 71 #[.agg #[.int .i64 p.tk, .int .i64 p.cnt, .int .i64 p.sum, .int .i64 p.mn, .int .i64 p.mx], x0, x1] Wb _ := FC
        have hl9 := hPp.load
        have pv : (Value.agg p.cells.toArray) = .agg #[.int .i64 p.tk, .int .i64 p.cnt, .int .i64 p.sum, .int .i64 p.mn, .int .i64 p.mx] := rfl
        rw [pv] at hl9
        have PV := Lib.hid pv
        have HPp := Lib.hid hPp
        have CB := Lib.hid cb
        have HWB := Lib.hid hWb
        have hwj : wrap64 ((j : Int) + 1) = ((j + 1 : Nat) : Int) := by unfold wrap64; omega
        rw [hWb] at hl9
        cases hfp : f p with
        | true =>
          rw [hfp] at FC
          have FC := Lib.hid FC
          have P2 := Lib.hid (hP.out.skip hp hfp)
          clear hWb cb hPp hp hMp e1 g1 g2 g3 pv hfp
          go_wp2_with (first | refine wpList_load rfl 58 _ rfl _ _ rfl hld ?_ | refine wpList_load rfl 58 _ rfl _ _ rfl hl9 ?_)
          rw [← HWB.out]
          refine FC.out.mono ?_
          rintro e w3 ⟨rfl, c3⟩
          have C3 := Lib.hid (CB.out.trans c3)
          clear c3 hld hl9
          go_wp2_with fail
          exact ⟨⟨i, j + 1, M, rfl, rfl, by omega, by omega, P2.out, Owns.kept hO.out C3.out (fun _ _ h => h), hC.out.trans C3.out, Nat.le_trans hZ.out C3.out.size⟩, by simp only [intOf]; omega⟩
        | false =>
          rw [hfp] at FC
          have FC := Lib.hid FC
          have P2 := Lib.hid (hP.out.put hp hfp)
          obtain ⟨q, hq⟩ := at_lt (show i < M.length by rw [hP.out.len, ← HN.out]; omega)
          have HQ := Lib.hid hq
          have hML : Hid (M.length = n) := by show _ = _; rw [hP.out.len, ← HN.out]
          have hwi : wrap64 ((i : Int) + 1) = ((i + 1 : Nat) : Int) := by unfold wrap64; omega
          have iin : (i : Int) < n := by omega
          clear hWb cb hPp hp hMp e1 g1 g2 g3 hfp hq pv
          go_wp2_with (first | refine wpList_load rfl 58 _ rfl _ _ rfl hld ?_ | refine wpList_load rfl 58 _ rfl _ _ rfl hl9 ?_)
          rw [← HWB.out]
          refine FC.out.mono ?_
          rintro e w3 ⟨rfl, c3⟩
          have hP3 : AgAt w3 wr.heap.size p := HPp.out.kept c3 (fun h => h)
          have hl3 := hP3.load
          rw [PV.out] at hl3
          have hO3 : Owns w3 5 (.slice (some ⟨g, o, none⟩) n c) n (M.flatMap Ag.cells) := Owns.kept hO.out (CB.out.trans c3) (fun _ _ h => h)
          obtain ⟨k1, k2, k3⟩ := Owns.elem (s := 5) (f := Ag.cells) hO3 (fun _ _ => rfl) i q HQ.out
          have hst := run_storeAt_agg (P := Try.prog) w3 58 g (o + i * 5) p.cells size_agg (fun m hm => k2 m hm) (fun m hm => k3 m hm) (agone p)
          have hO4 := Owns.put (s := 5) (f := Ag.cells) hO3 (fun _ _ => rfl) hML.out i 0 q p p.cells HQ.out (by simp) (by simp)
          simp only [Nat.add_zero] at hO4
          rw [PV.out] at hst
          obtain ⟨w4, hw4⟩ : ∃ w4, w4 = w3.setCells g (o + i * 5) p.cells := ⟨_, rfl⟩
          have c4 : Chg (fun k => k = g) w3 w4 := by rw [hw4]; exact Chg.setCells _ _ _ _
          rw [← hw4] at hst hO4
          have O4 := Lib.hid hO4
          have Z4 : Hid (w.heap.size ≤ w4.heap.size) := Nat.le_trans hZ.out (Nat.le_trans CB.out.size (Nat.le_trans c3.size c4.size))
          have C4 : Hid (Chg (fun _ => False) w0 w4) := ((hC.out.trans CB.out).trans c3).new c4 (fun k hk => by rw [hk]; exact hgf.out)
          clear c3 hld hl9 hP3 hO3 k1 k2 k3 hO4 hw4 c4
          go_wp2_with (first | refine wpList_load rfl 58 _ rfl _ _ rfl hl3 ?_ | refine wpList_store rfl 58 _ _ rfl _ _ _ rfl rfl hst ?_)
          exact ⟨⟨i + 1, j + 1, M.set i p, rfl, rfl, by omega, by omega, P2.out, O4.out, C4.out, Z4.out⟩, by simp only [intOf]; omega⟩
      · obtain rfl : j = n := by omega
        have hlo := fun W => slA_lo W (some ⟨g, o, none⟩) j c i (by omega)
        have ez : (if c = i then (some ⟨g, o, none⟩ : Option Addr) else (some (⟨g, o, none⟩ : Addr)).map (·.add (i * 5))) = some ⟨g, o + i * 5, none⟩ := by
          rw [if_neg (by omega)]
          simp [Addr.add_lit]
        rw [ez] at hlo
        have hhi := fun W => slA_hi W (some ⟨g, o, none⟩) j c i (by omega)
        obtain ⟨i0, hi0, hz0, hz1, hz2⟩ := info_parts infoAg
        have hroom : ∀ m, m < c * 5 → (wr.cell? ⟨g, o + m, none⟩).isSome = true ∧ wr.frozen? ⟨g, o + m, none⟩ = false := by
          rcases hO.out.2 with ⟨hv, _⟩ | ⟨g', o', c', hv, _, _, _, _, h5⟩
          · simp at hv
          · simp only [Value.slice.injEq, Option.some.injEq, Addr.mk.injEq, true_and, and_true] at hv
            obtain ⟨⟨rfl, rfl⟩, rfl⟩ := hv
            exact h5
        have hcr := fun ty => run_clear_rows (P := Try.prog) wr 51 58 ty (.agg #[.int .i64 0, .int .i64 0, .int .i64 0, .int .i64 0, .int .i64 0]) 5 Try.underlying51 (fun w => by simp [zeroValue, typeInfo, hi0, hz0]) rfl (by intro v hv; simp [Value.cells] at hv; rcases hv with rfl | rfl | rfl | rfl | rfl <;> rfl) g (o + i * 5) (j - i) (c - i) (by omega) (fun m hm => by rw [Nat.add_assoc]; exact (hroom _ (by omega)).1) (fun m hm => by rw [Nat.add_assoc]; exact (hroom _ (by omega)).2)
        have hlz : (Builtin.zeroCells (Value.agg #[.int .i64 0, .int .i64 0, .int .i64 0, .int .i64 0, .int .i64 0]).cells (j - i)).toList.length = (j - i) * 5 := by rw [Array.length_toList, size_zeroCells]; rfl
        have hOt := owns_take (i := i) hO.out (by omega)
        have hOp := owns_past (zs := (Builtin.zeroCells (Value.agg #[.int .i64 0, .int .i64 0, .int .i64 0, .int .i64 0, .int .i64 0]).cells (j - i)).toList) hOt (by rw [hlz]; omega)
        obtain ⟨w5, hw5⟩ : ∃ w5, w5 = wr.setCells g (o + i * 5) (Builtin.zeroCells (Value.agg #[.int .i64 0, .int .i64 0, .int .i64 0, .int .i64 0, .int .i64 0]).cells (j - i)).toList := ⟨_, rfl⟩
        rw [← hw5] at hcr hOp
        have Z5 : Hid (w.heap.size ≤ w5.heap.size) := by
          show _ ≤ _
          rw [hw5, size_setCells]; exact hZ.out
        have C5 : Hid (Chg (fun _ => False) w0 w5) := by
          show Chg _ _ _
          rw [hw5]; exact hC.out.new (Chg.setCells _ g _ _) (fun k hk => by rw [hk]; exact hgf.out)
        have hfin : Hid (OAgs w5 (.slice (some ⟨g, o, none⟩) i c) (keepF f l)) := by
          have e := hP.out.front
          rw [HN.out, List.take_length] at e
          have hlen : (M.take i).length = i := by rw [List.length_take, hP.out.len, ← HN.out]; omega
          show Owns _ _ _ _ _
          rw [← e, hlen, ← rows_take M (s := 5) (f := Ag.cells) (fun _ _ => rfl)]
          exact hOp
        clear hi0 hz0 hz1 hz2 hroom hlz hOt hOp hw5 ez
        go_wp2_with fail
        go_ret
        exact ⟨_, rfl, hfin.out, fun k hk => by cases hk; exact hgf.out, C5.out, Z5.out⟩
end Go.Proofs.Ytmnnahkaenikkaa
