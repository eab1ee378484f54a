/- The contract of journal.records. -/
import Derived.Test.YtjhkhdockiocgaaRecStep
import Derived.Test.YtjhkhdockiocgaaDevUp
namespace Go.Proofs.Ytjhkhdockiocgaa
open Go.RowKit Go.Cat Go.Shelf
attribute [local go_sem] Oper.semAt_some

theorem unpack_bad (v : Value) (w : World) (x : List UInt8) (hv : RB w v x) (hk : known x) (hs : ¬ sound x) :
    Calls Try.prog 115 #[v] w fun e w' => ∃ er : Int, er ≠ 0 ∧ e = .returned (.tuple #[.agg #[.int .u32 0, .int .u32 0, .bool false, .slice none 0 0], .int .i64 er]) ∧ Chg (fun _ => False) w w' := by
  rcases hk.2 with h | h | h
  · exact (unpack_zero v w x hv hk.1 h).mono (by rintro e w' ⟨rfl, c⟩; exact ⟨7, by omega, rfl, c⟩)
  · exact (unpack_torn v w x hv hk.1 h.1 h.2).mono (by rintro e w' ⟨rfl, c⟩; exact ⟨5, by omega, rfl, c⟩)
  · exact absurd h hs
theorem unpack_sound (v : Value) (w : World) (x : List UInt8) (hv : RB w v x) (hk : known x) (hs : sound x) :
    Calls Try.prog 115 #[v] w fun e w' => ∃ dv, e = .returned (.tuple #[.agg #[.int .u32 (ofBe (x.take 4)), .int .u32 (placeB x), .bool (lastB x), dv], .int .i64 0]) ∧ OB w' dv (bodyB x) ∧ Fresh w dv ∧ Chg (fun _ => False) w w' :=
  unpack_ok v w x hv hk.1 hs.1 hs.2.1 hs.2.2
/-- A goal that the walk leaves alone. -/
@[irreducible] def Stop (p : Prop) : Prop := p
theorem stop_ {p : Prop} (h : Stop p) : p := by unfold Stop at h; exact h
theorem go_on {p : Prop} (h : p) : Stop p := by unfold Stop; exact h
open Classical in
/-- The turn that a sector tells. -/
noncomputable def turnB (x : List UInt8) : Nat := if sound x then ofBe (x.take 4) else 0
set_option maxRecDepth 100000 in
set_option maxHeartbeats 1000000 in
theorem turn_any (v : Value) (w : World) (x : List UInt8) (hv : RB w v x) (hk : known x) :
    Calls Try.prog 113 #[v] w fun e w' => e = .returned (.int .u32 (turnB x)) ∧ Chg (fun _ => False) w w' := by
  by_cases hs : sound x
  · rw [show turnB x = ofBe (x.take 4) from if_pos hs]
    exact turn_ok v w x hv hk.1 hs.1 hs.2.1 hs.2.2
  · rw [show turnB x = 0 from if_neg hs]
    have HU := Lib.hid (unpack_bad v w x hv hk hs)
    clear hv hk hs
    go_enter Try.func113, Try.ntmps113
    go_wp2_with fail
    refine HU.out.mono ?_
    rintro e w1 ⟨er, _, rfl, c1⟩
    go_wp2_with fail
    go_ret
    exact ⟨rfl, c1.alloc _⟩
theorem Try.infoBs : (Try.prog.info? 33).map (fun i => (i.zero, i.size, i.bytes)) = some (some (.slice none 0 0), 1, 24) := by kernel_rfl
theorem sec_rb {w : World} {g o m cap : Nat} {X : List (List UInt8)} (h : RB w (.slice (some ⟨g, o, none⟩) (m * 64) cap) X.flatten) (hl : ∀ x ∈ X, x.length = 64) (k : Nat) (x : List UInt8) (hx : X[k]? = some x) :
    RB w (.slice (some ⟨g, o + k * 64, none⟩) 64 64) x := by
  have hxl := hl x (List.mem_of_getElem? hx)
  rcases h.2 with ⟨hv, _⟩ | ⟨g', o', c, hv, g1, g2, g3, g4⟩
  · simp at hv
  · simp only [Value.slice.injEq, Option.some.injEq, Addr.mk.injEq, true_and, and_true] at hv
    obtain ⟨⟨rfl, rfl⟩, _⟩ := hv
    refine ⟨by simp, .inr ⟨g, o + k * 64, 64, by rw [hxl], by omega, by simp [maxLen], g3, fun j u hj => ?_⟩⟩
    have hjl := (List.getElem?_eq_some_iff.1 hj).1
    rw [bs_length] at hjl
    rw [Nat.add_assoc]
    refine g4 _ u ?_
    rw [← bs_flatten, rows_at X (bs64 hl) k j x hx (by omega)]
    exact hj
theorem flatten_len {X : List (List UInt8)} (hl : ∀ x ∈ X, x.length = 64) : X.flatten.length = X.length * 64 := by
  rw [← bs_length X.flatten, ← bs_flatten, rows_len X (bs64 hl)]

theorem NoCells.of_row {W : World} {row : Option Nat} {B : Nat} (hr : ∀ r, row = some r → B ≤ r ∧ ∃ o : Obj, W.heap[r]? = some o ∧ o.isCells = false) : NoCells W (fun k => row = some k) := fun r e => (hr r e).2

set_option maxRecDepth 100000 in
set_option maxHeartbeats 4000000 in
theorem records_any (v : Value) (w : World) (X : List (List UInt8)) (hv : RB w v X.flatten) (hX : ∀ x ∈ X, known x) (hm : 1 ≤ X.length) (hm2 : X.length ≤ 8192) :
    Calls Try.prog 82 #[v] w fun e w' => ∃ v' out F, e = .returned (.tuple #[v', .int .u32 (turnB (X.headD []))]) ∧ OutsF w' F v' out ∧ (∀ q, F q → w.heap.size ≤ q) ∧ Recs (turnB (X.headD [])) X out ∧ Chg (fun _ => False) w w' := by
  have h64 : ∀ x ∈ X, x.length = 64 := fun x hx => (hX x hx).1
  obtain ⟨m, hmm⟩ : ∃ m, m = X.length := ⟨_, rfl⟩
  have hfl := flatten_len h64
  rw [← hmm] at hfl hm hm2
  obtain ⟨va, cap, rfl⟩ := hv.form
  rw [hfl] at hv ⊢
  obtain ⟨g, o, rfl⟩ : ∃ g o, va = some ⟨g, o, none⟩ := by
    rcases hv.2 with ⟨hv, h0⟩ | ⟨g, o, c, hv, _⟩
    · simp only [Value.slice.injEq] at hv; omega
    · simp only [Value.slice.injEq] at hv; exact ⟨g, o, hv.1⟩
  have hcap : m * 64 ≤ cap := by have := hv.cap_ge.2; omega
  obtain ⟨x0, hx0⟩ : ∃ x, X[0]? = some x := ⟨_, List.getElem?_eq_getElem (by omega)⟩
  have hhd : X.headD [] = x0 := by cases X <;> simp_all
  rw [hhd]
  obtain ⟨t, ht⟩ : ∃ t, t = turnB x0 := ⟨_, rfl⟩
  rw [← ht]
  have hsl : ∀ w, (Instr.sliceAt 33 (.slice (some ⟨g, o, none⟩) (m * 64) cap) none (some (.int .i64 64)) none).run Try.prog w = .ok (.slice (some ⟨g, o, none⟩) 64 cap) w := fun w => by
    have h4 : (64 : Int) ≤ cap := by omega
    simp [go_sem, Instr.sliceAt, Instr.slice, Instr.sliceBounds, h4]
  have hp0 : RB w (.slice (some ⟨g, o, none⟩) 64 cap) x0 := by
    have h1 := sec_rb hv h64 0 x0 hx0
    have h2 := h64 x0 (List.mem_of_getElem? hx0)
    rcases h1.2 with ⟨hv', _⟩ | ⟨g', o', c', hv', k1, k2, k3, k4⟩
    · simp at hv'
    · simp only [Value.slice.injEq, Option.some.injEq, Addr.mk.injEq, true_and, and_true, Nat.zero_mul, Nat.add_zero] at hv'
      obtain ⟨⟨rfl, rfl⟩, _, _⟩ := hv'
      have hcm : cap ≤ maxLen := by
        rcases hv.2 with ⟨hv'', _⟩ | ⟨_, _, c'', hv'', _, q2, _⟩
        · simp at hv''
        · simp only [Value.slice.injEq] at hv''; rw [hv''.2.2]; exact q2
      exact ⟨by simp, .inr ⟨g, o, cap, by rw [h2], by omega, hcm, k3, k4⟩⟩
  have HT := Lib.hid (turn_any _ w x0 hp0 (hX x0 (List.mem_of_getElem? hx0)))
  rw [← ht] at HT
  have HTe := Lib.hid ht
  have HV := Lib.hid hv
  have HX := Lib.hid hX
  have HM := Lib.hid hmm
  have H64 := Lib.hid h64
  have HX0 := Lib.hid hx0
  clear ht hv hX hmm h64 hx0 hfl hhd hp0
  refine (callsIn_wide (n := 6)).1 ?_
  have h1 : 1 ≤ 6 := by omega
  refine callsIn_of_wp_marks Try.func82 rfl trivial ?_ rfl
  simp only [Try.ntmps82, List.size_toArray, List.length_cons, List.length_nil, Nat.reduceAdd, Nat.reduceSub, Array.replicate_succ, Array.replicate_zero, List.push_toArray, List.append_toArray, List.nil_append, List.cons_append]
  gi_wp2
  refine ⟨trivial, (callsIn_wide.2 HT.out).mono ?_⟩
  rintro e w1 ⟨rfl, c1⟩
  gi_wp2
  refine ⟨trivial, (callsIn_wide.2 (chunk_any _ _ _ _)).mono ?_⟩
  rintro e w5 ⟨rfl, hw5⟩
  gi_wp2
  rw [← hw5]
  have cc1 : Chg (fun _ => False) w1 w5 := by rw [hw5]; exact ((((((Chg.refl _ w1).alloc _).alloc _).alloc _).alloc _).alloc _).alloc _
  have z5 : w5.heap.size = w1.heap.size + 6 := by rw [hw5]; simp
  have b0 : w5.heap[w1.heap.size]? = some (.cells #[.int .u32 t] 51 (0, 0)) := by
    rw [hw5]; exact Chg.heap ((((((Chg.refl (fun _ => False) _).alloc _).alloc _).alloc _).alloc _).alloc _) (heap_at_new w1 _ _ rfl) (fun h => h)
  have b1 : w5.heap[w1.heap.size + 1]? = some (.cells #[.slice none 0 0] 43 (0, 0)) := by
    rw [hw5]; exact Chg.heap (((((Chg.refl (fun _ => False) _).alloc _).alloc _).alloc _).alloc _) (heap_at_new _ _ _ (by simp)) (fun h => h)
  have b2 : w5.heap[w1.heap.size + 1 + 1]? = some (.cells #[.slice none 0 0] 132 (0, 0)) := by
    rw [hw5]; exact Chg.heap ((((Chg.refl (fun _ => False) _).alloc _).alloc _).alloc _) (heap_at_new _ _ _ (by simp)) (fun h => h)
  have b3 : w5.heap[w1.heap.size + 1 + 1 + 1]? = some (.cells #[.int .u32 0] 51 (0, 0)) := by
    rw [hw5]; exact Chg.heap (((Chg.refl (fun _ => False) _).alloc _).alloc _) (heap_at_new _ _ _ (by simp)) (fun h => h)
  have b4 : w5.heap[w1.heap.size + 1 + 1 + 1 + 1]? = some (.cells #[.slice (some ⟨g, o, none⟩) (m * 64) cap] 33 (0, 0)) := by
    rw [hw5]; exact Chg.heap ((Chg.refl (fun _ => False) _).alloc _) (heap_at_new _ _ _ (by simp)) (fun h => h)
  have b5 : w5.heap[w1.heap.size + 1 + 1 + 1 + 1 + 1]? = some (.cells #[.int .i64 64] 3 (0, 0)) := by
    rw [hw5]; exact heap_at_new _ _ _ (by simp)
  obtain ⟨bt, e0⟩ : ∃ b, b = w1.heap.size := ⟨_, rfl⟩
  obtain ⟨bo, e1⟩ : ∃ b, b = w1.heap.size + 1 := ⟨_, rfl⟩
  obtain ⟨bp, e2⟩ : ∃ b, b = w1.heap.size + 1 + 1 := ⟨_, rfl⟩
  obtain ⟨bq, e3⟩ : ∃ b, b = w1.heap.size + 1 + 1 + 1 := ⟨_, rfl⟩
  obtain ⟨Bs, e4⟩ : ∃ b, b = w1.heap.size + 1 + 1 + 1 + 1 := ⟨_, rfl⟩
  obtain ⟨Bn, e5⟩ : ∃ b, b = w1.heap.size + 1 + 1 + 1 + 1 + 1 := ⟨_, rfl⟩
  rw [← e5, ← e4, ← e3, ← e2, ← e1, ← e0]
  rw [← e0] at b0
  rw [← e1] at b1
  rw [← e2] at b2
  rw [← e3] at b3
  rw [← e4] at b4
  rw [← e5] at b5
  have cw5 : Chg (fun _ => False) w w5 := c1.trans cc1
  have zz := c1.size
  have ORD : Hid (w.heap.size ≤ bt ∧ bt + 1 = bo ∧ bo + 1 = bp ∧ bp + 1 = bq ∧ bq + 1 = Bs ∧ Bs + 1 = Bn ∧ Bn + 1 = w5.heap.size) := by show _ ∧ _; omega
  have q4 : w5.cell? ⟨Bs, 0, none⟩ = some (.slice (some ⟨g, o, none⟩) (m * 64) cap) := by rw [cell_of_heap b4]; rfl
  have q5 : w5.cell? ⟨Bn, 0, none⟩ = some (.int .i64 64) := by rw [cell_of_heap b5]; rfl
  clear hw5 e0 e1 e2 e3 e4 e5 cc1 c1 z5 zz hsl
  obtain ⟨sx, hsx⟩ : ∃ sx : Fin m → List UInt8, ∀ i, X[i.1]? = some (sx i) := ⟨fun i => X[i.1]'(by rw [← HM.out]; exact i.2), fun i => List.getElem?_eq_getElem _⟩
  have HSX := Lib.hid hsx
  have CW5 := Lib.hid cw5
  have T5 := Lib.hid b0
  clear hsx cw5 b0
  have hrbs : Hid (∀ (i : Fin m) (W : World), Chg (fun q => q = bo ∨ q = bp ∨ q = bq) w5 W → RB W (secV g o i.1) (sx i)) := fun i W hc => by
    have h1 := sec_rb HV.out H64.out i.1 (sx i) (HSX.out i)
    refine (h1.kept CW5.out (fun _ _ h => h)).kept hc (fun q hq h => ?_)
    have := h1.lt' q hq
    have := ORD.out
    omega
  have hkn : Hid (∀ i : Fin m, known (sx i)) := fun i => HX.out _ (List.mem_of_getElem? (HSX.out i))
  have FIN : Hid (∀ (W : World) (D nq : Nat) (pre out : List (List UInt8)) c acc ss ov pv vs F G, RecJ bo bp bq w5 t pre out W c acc ss ov pv vs F G → w5.heap.size ≤ D → W.heap[D]? = some (.deferred (some [])) →
      OutsF ((W.drewN nq).putObj D (.deferred none)) F ov out ∧ (∀ q, F q → w.heap.size ≤ q) ∧ Chg (fun _ => False) w ((W.drewN nq).putObj D (.deferred none))) := fun W D nq pre out c acc ss ov pv vs F G hJ hD hK => by
    have hO := ORD.out
    have cD : Chg (fun _ => False) W (W.drewN nq) := (Chg.refl _ W).drewN nq
    have cP : Chg (fun q => q = D) (W.drewN nq) ((W.drewN nq).putObj D (.deferred none)) := ⟨rfl, rfl, rfl, by simp, fun q _ hq => World.putObj_heap_other hq⟩
    refine ⟨(hJ.outs.kept cD (fun _ _ h => h)).other cP (fun q hq => ⟨.deferred (some []), by have e : q = D := hq; subst e; exact hK, rfl⟩), fun q hq => by have := (hJ.rng q (.inl hq)).1; omega, ?_⟩
    exact (((CW5.out.new hJ.chg (fun q h => by omega)).drewN nq)).new cP (fun q h => by omega)
  have hall : Hid ((List.finRange m).map sx = X) := by
    show _ = _
    apply List.ext_getElem?
    intro i
    rw [List.getElem?_map]
    by_cases hi : i < m
    · have h := HSX.out ⟨i, hi⟩
      simp only at h
      rw [h, List.getElem?_eq_getElem (by simpa using hi)]
      simp
    · rw [List.getElem?_eq_none (by simpa using hi), List.getElem?_eq_none (by rw [← HM.out]; omega)]
      rfl
  have hfin : (List.finRange m).map (fun i : Fin m => i.1) = List.range m := by apply List.ext_getElem <;> simp
  refine wpIn_rangeFunc_ownF (α := Fin m) rfl h1 (gf := 132) (lb := #[.pointer (some ⟨Bs, 0, none⟩), .pointer (some ⟨Bn, 0, none⟩)]) rfl trivial (enters_of Try.func132 (by kernel_rfl) rfl)
    (chunk_stops (List.finRange m) (fun i => i.1) 5 (by omega) Bs Bn g o m cap hfin (by omega) hcap w5 q4 q5) keep2_t (keep2_b (by have := ORD.out; omega) (by have := ORD.out; omega)) (Below.refl _ _) (fun _ => rfl)
    (fun pre W => ∃ out, RecI bo bp bq w5 t (pre.map sx) out W)
    (fun c pre W => ∃ pre' x, pre = pre' ++ [x] ∧ c = .exit 0 ∧ (∃ out, RecI bo bp bq w5 t (pre'.map sx) out W) ∧ ¬ goodAt t pre'.length (sx x))
    (fun s A B row hs hg hr => by
      obtain ⟨out, hs⟩ := hs
      exact ⟨out, hs.other (Chg.of_grownBy hg) (NoCells.of_row hr) (fun q hq => (hr q hq).1)⟩)
    (fun c s A B row hs hg hr => by
      obtain ⟨pre', x, h1, h2, ⟨out, hs⟩, h3⟩ := hs
      exact ⟨pre', x, h1, h2, ⟨out, hs.other (Chg.of_grownBy hg) (NoCells.of_row hr) (fun q hq => (hr q hq).1)⟩, h3⟩)
    ?start
    (fun x => { tmps := #[Value.slice (some ⟨g, o, none⟩) (m * 64) cap, undef, Value.slice none 0 0, Value.int .u32 0, Value.pointer (some ⟨bt, 0, none⟩), Value.pointer (some ⟨bo, 0, none⟩), Value.pointer (some ⟨bp, 0, none⟩), Value.pointer (some ⟨bq, 0, none⟩), secV g o x.1, undef, undef, undef, undef, Value.slice (some ⟨g, o, none⟩) (m * 64) cap, Value.slice (some ⟨g, o, none⟩) 64 cap, Value.int .u32 t, Value.slice (some ⟨g, o, none⟩) (m * 64) cap, Value.func (Fn.func 132) #[] #[Value.pointer (some ⟨Bs, 0, none⟩), Value.pointer (some ⟨Bn, 0, none⟩)], secV g o x.1, undef, undef, undef, undef, undef, undef, undef, undef, undef, undef, undef, undef, undef, undef, undef, undef, undef, undef, undef, undef, undef, undef, undef, undef, undef, undef, undef, undef, undef, undef, undef, undef, undef, undef, undef], defers := [] }) ?assign ?body ?done ?stop
  case start => exact ⟨[], RecI.start b1 b2 b3⟩
  case assign =>
    intro l x W K hK
    gi_wp2
    exact hK
  case body =>
    rintro l pre x W ⟨out, c, acc, ss, ov, pv, vs, F, G, hJ⟩ hlen
    have hRB := Lib.hid (hrbs.out x W hJ.chg)
    have hK := hkn.out x
    have hlm : (pre.map sx).length = pre.length := List.length_map _
    generalize hxs : sx x = xs at hRB hK
    have hqt : W.cell? ⟨bt, 0, none⟩ = some (.int .u32 t) := by rw [cell_of_heap (hJ.chg.heap T5.out (fun h => by have := ORD.out; omega))]; rfl
    have hqh := hJ.hq
    rw [hlm] at hqh
    have hqq : W.cell? ⟨bq, 0, none⟩ = some (.int .u32 (pre.length : Int)) := by rw [cell_of_heap hqh]; rfl
    have HX := Lib.hid hxs
    have HJ := Lib.hid hJ
    have HQ := Lib.hid hqh
    have HKn := Lib.hid hK
    have HLM := Lib.hid hlm
    have BX : Hid (Boxes3 bo bp bq w5) := ⟨by have := ORD.out; omega, by have := ORD.out; omega, by have := ORD.out; omega, by have := ORD.out; omega, by have := ORD.out; omega, by have := ORD.out; omega⟩
    clear hJ hxs hK hqh hlm
    have KO : Hid (∀ W', RoundOk bo bp bq w5 W W' → KeepsOthers W W' ∧ Keep2 Bs Bn W W') := fun W' h => ⟨h.1, h.2 Bs (by have := ORD.out; omega) (by have := ORD.out; omega) (by have := ORD.out; omega) (by have := ORD.out; omega), h.2 Bn (by have := ORD.out; omega) (by have := ORD.out; omega) (by have := ORD.out; omega) (by have := ORD.out; omega)⟩
    by_cases hs : sound xs
    · have HS := Lib.hid hs
      clear hs
      gi_wp2
      refine ⟨trivial, (CallsIn.inRound l (callsIn_wide.2 (unpack_sound _ _ xs hRB.out HKn.out HS.out))).mono ?_⟩
      rintro e W1 ⟨dv, rfl, hob, hfr, c1⟩
      obtain ⟨da, dc, rfl⟩ := hob.form
      obtain ⟨T, hTe⟩ : ∃ T, T = ofBe (xs.take 4) := ⟨_, rfl⟩
      obtain ⟨P, hPe⟩ : ∃ P, P = placeB xs := ⟨_, rfl⟩
      obtain ⟨L, hLe⟩ : ∃ L, L = lastB xs := ⟨_, rfl⟩
      obtain ⟨d, hde⟩ : ∃ d, d = bodyB xs := ⟨_, rfl⟩
      have hl47 : (bodyB xs).length ≤ 47 := by unfold bodyB; simp; omega
      rw [← hde] at hl47
      rw [← hTe, ← hPe, ← hLe]
      rw [← hde] at hob hfr ⊢
      have HTT := Lib.hid hTe
      have HPe := Lib.hid hPe
      have HLe := Lib.hid hLe
      have HDe := Lib.hid hde
      have HOB := Lib.hid hob
      have HFR := Lib.hid hfr
      have C1 := Lib.hid c1
      have cA : Chg (fun _ => False) W (W1.alloc (.cells #[.int .u32 T, .int .u32 P, .bool L, .slice da d.length dc] 138)) := c1.alloc _
      have CA := Lib.hid cA
      have hqt1 : (W1.alloc (.cells #[.int .u32 T, .int .u32 P, .bool L, .slice da d.length dc] 138)).cell? ⟨bt, 0, none⟩ = some (.int .u32 t) := cA.cell hqt (fun h => h)
      have hqq1 : (W1.alloc (.cells #[.int .u32 T, .int .u32 P, .bool L, .slice da d.length dc] 138)).cell? ⟨bq, 0, none⟩ = some (.int .u32 (pre.length : Int)) := cA.cell hqq (fun h => h)
      have hqf1 : (W1.alloc (.cells #[.int .u32 T, .int .u32 P, .bool L, .slice da d.length dc] 138)).frozen? ⟨bq, 0, none⟩ = false := frozen_of_heap (cA.heap HQ.out (fun h => h)) 0
      clear hTe hPe hLe hde hob hfr c1 hqt hqq cA
      by_cases hT : T = t
      · subst hT
        by_cases hP : P = pre.length
        · subst hP
          have HG : Hid (goodAt T (pre.map sx).length xs) := ⟨HS.out, HTT.out.symm, by rw [HLM.out]; exact HPe.out.symm⟩
          obtain ⟨pa, pc, hpv⟩ := HJ.out.secs.1.form
          obtain ⟨oa, oc, hov⟩ := HJ.out.oown.form
          subst hpv
          subst hov
          have hslen : ss.length ≤ pre.length := by have := HJ.out.sok.1; rw [HLM.out] at this; exact this
          have hpl : pre.length < 8192 := by omega
          obtain ⟨W2, hW2⟩ : ∃ W2, W2 = ((W1.alloc (.cells #[.int .u32 T, .int .u32 (pre.length : Int), .bool L, .slice da d.length dc] 138)).setCell ⟨bq, 0, none⟩ (.int .u32 ((pre.length : Int) + 1))) := ⟨_, rfl⟩
          have c12 : Chg (fun q => q = bq) W W2 := by rw [hW2]; exact Chg.setCell (S := fun q => q = bq) (CA.out.mono (fun _ _ h => h.elim)) (p := ⟨bq, 0, none⟩) (fun _ => rfl) _
          have cA2 : Chg (fun q => q = bq) W1 W2 := by rw [hW2]; exact Chg.setCell (S := fun q => q = bq) ((Chg.refl _ W1).alloc _) (p := ⟨bq, 0, none⟩) (fun _ => rfl) _
          have hz12 : W.heap.size ≤ W1.heap.size := C1.out.size
          have hz5 := HJ.out.chg.size
          have hA2 : W2.heap[W1.heap.size]? = some (.cells #[.int .u32 T, .int .u32 (pre.length : Int), .bool L, .slice da d.length dc] 138 (0, 0)) := by
            rw [hW2]
            have h := heap_at_new W1 (.cells #[.int .u32 T, .int .u32 (pre.length : Int), .bool L, .slice da d.length dc] 138) _ rfl
            exact (Chg.setCell (S := fun q => q = bq) (Chg.refl _ _) (p := ⟨bq, 0, none⟩) (fun _ => rfl) _).heap h (fun e => by have := BX.out.lq; omega)
          have hq2 : W2.heap[bq]? = some (.cells #[.int .u32 (((pre.map sx).length : Int) + 1)] 51 (0, 0)) := by
            rw [hW2, HLM.out]; exact Cat.heap_setCell_same (CA.out.heap HQ.out (fun h => h)) 0 _
          have hp2 := c12.heap HJ.out.hp BX.out.pq
          have hob2 : RB W2 (.slice da d.length dc) (bodyB xs) := by rw [← HDe.out]; exact HOB.out.rb.kept cA2 (fun q hq e => by have := HFR.out q hq; have := BX.out.lq; omega)
          have hdlo : ∀ q, (Value.slice da d.length dc).ownBlock = some q → W.heap.size ≤ q := fun q hq => HFR.out q hq
          have r0 : W2.cell? ⟨W1.heap.size, 0, none⟩ = some (.int .u32 T) := by rw [cell_of_heap hA2]; rfl
          have r1 : W2.cell? ⟨W1.heap.size, 1, none⟩ = some (.int .u32 (pre.length : Int)) := by rw [cell_of_heap hA2]; rfl
          have r2 : W2.cell? ⟨W1.heap.size, 2, none⟩ = some (.bool L) := by rw [cell_of_heap hA2]; rfl
          have r3 : W2.cell? ⟨W1.heap.size, 3, none⟩ = some (.slice da d.length dc) := by rw [cell_of_heap hA2]; rfl
          have r4 : W2.cell? ⟨bp, 0, none⟩ = some (.slice pa ss.length pc) := by rw [cell_of_heap hp2]; rfl
          have hown := (HJ.out.w2 BX.out c12).1
          have IN3 : Hid (∀ w3, Chg (fun k => (Value.slice pa ss.length pc).ownBlock = some k) W2 w3 → w3.cell? ⟨bp, 0, none⟩ = some (.slice pa ss.length pc) ∧ w3.frozen? ⟨bp, 0, none⟩ = false ∧ ∀ v, (w3.setCell ⟨bp, 0, none⟩ v).cell? ⟨W1.heap.size, 2, none⟩ = some (.bool L)) := fun w3 c3 => by
            have h := HJ.out.in3 BX.out c12 hq2 c3
            refine ⟨by rw [cell_of_heap h.1]; rfl, frozen_of_heap h.1 0, fun v => ?_⟩
            have h3 : w3.heap[W1.heap.size]? = _ := c3.heap hA2 (fun e => by have := (HJ.out.rng _ (.inr (HJ.out.secs.2.1 _ e))).2; omega)
            have h4 := (Chg.setCell (S := fun q => q = bp) (Chg.refl _ w3) (p := ⟨bp, 0, none⟩) (fun _ => rfl) v).heap h3 (fun e => by have := BX.out.lp; omega)
            rw [cell_of_heap h4]; rfl
          have C12 := Lib.hid c12
          have HQ2 := Lib.hid hq2
          have HOB2 := Lib.hid hob2
          have HDLO := Lib.hid hdlo
          have R5 : Hid ((pre.map sx).length = pre.length) := HLM.out
          clear c12 hq2 hob2 hdlo hA2 hp2 cA2
          rw [hW2] at r0 r1 r2 r3 r4 hown IN3 C12 HQ2 HOB2
          clear hW2
          cases L
          · gi_wp2_with (gi_at_builtin; refine stop_ ?_)
            refine go_on ?_
            refine wpListIn_app_one rfl _ _ 132 rfl 138 (.agg #[.int .u32 0, .int .u32 0, .bool false, .slice none 0 0]) 4 40 Try.underlying132 Try.info138 rfl (.slice pa ss.length pc) ss.length (flat ss) [.int .u32 T, .int .u32 (pre.length : Int), .bool false, .slice da d.length dc] _ rfl (by show Value.slice (some ⟨W1.heap.size + 1, 0, none⟩) 1 1 = _; simp) hown rfl (by simp [Value.oneCell']) (by simp only [maxLen]; omega) (by omega) ?_
            intro v' w3 own3 c3 in3 nn3
            obtain ⟨va', vc', rfl⟩ := own3.form
            have HC3 := Lib.hid c3
            have HI3 := Lib.hid in3
            have HO3 := Lib.hid own3
            clear own3 c3 in3 nn3
            obtain ⟨f1, f2, f3'⟩ := IN3.out w3 HC3.out
            have f3 := f3' (.slice va' (ss.length + 1) vc')
            clear f3' r0 r1 r2 r3 r4
            gi_wp2
            have HR := RecJ.more HJ.out BX.out HG.out HLe.out.symm (by rw [← HDe.out]; exact hl47) C12.out HQ2.out HOB2.out HDLO.out (by rw [R5.out]; exact HO3.out) HC3.out HI3.out
            rw [show (pre.map sx) ++ [xs] = (pre ++ [x]).map sx by rw [List.map_append, ← HX.out]; rfl] at HR
            exact ⟨(KO.out _ HR.2).1, (KO.out _ HR.2).2, out, HR.1⟩
          · gi_wp2_with (gi_at_builtin; refine stop_ ?_)
            refine go_on ?_
            refine wpListIn_app_one rfl _ _ 132 rfl 138 (.agg #[.int .u32 0, .int .u32 0, .bool false, .slice none 0 0]) 4 40 Try.underlying132 Try.info138 rfl (.slice pa ss.length pc) ss.length (flat ss) [.int .u32 T, .int .u32 (pre.length : Int), .bool true, .slice da d.length dc] _ rfl (by show Value.slice (some ⟨W1.heap.size + 1, 0, none⟩) 1 1 = _; simp) hown rfl (by simp [Value.oneCell']) (by simp only [maxLen]; omega) (by omega) ?_
            intro v' w3 own3 c3 in3 nn3
            obtain ⟨va', vc', rfl⟩ := own3.form
            have HC3 := Lib.hid c3
            have HI3 := Lib.hid in3
            have HO3 := Lib.hid own3
            clear own3 c3 in3 nn3
            obtain ⟨f1, f2, f3'⟩ := IN3.out w3 HC3.out
            have f3 := f3' (.slice va' (ss.length + 1) vc')
            clear f3' r0 r1 r2 r3 r4
            obtain ⟨G', k1, k2, k3, k4, k5, k6, k7, k8, k9⟩ := HJ.out.open BX.out C12.out HQ2.out HOB2.out HDLO.out (L := true) (by rw [R5.out]; exact HO3.out) HC3.out HI3.out
            have f4 : (w3.setCell ⟨bp, 0, none⟩ (.slice va' (ss.length + 1) vc')).cell? ⟨bp, 0, none⟩ = some (.slice va' (ss.length + 1) vc') := by rw [cell_of_heap k4]; rfl
            have hjo : Joins (ss ++ [⟨T, (pre.map sx).length, true, .slice da d.length dc, bodyB xs⟩]) := HJ.out.sok.joins rfl rfl rfl (by rw [R5.out]; omega)
            have hdl : ∀ s ∈ ss ++ [⟨T, (pre.map sx).length, true, .slice da d.length dc, bodyB xs⟩], s.data.length ≤ 1000 := fun s hs => by
              rcases List.mem_append.1 hs with hs | hs
              · obtain ⟨i, hi⟩ := List.getElem?_of_mem hs
                have := (HJ.out.sok.2 i s hi).2.2.2; omega
              · obtain rfl : s = ⟨T, (pre.map sx).length, true, .slice da d.length dc, bodyB xs⟩ := by simpa using hs
                show (bodyB xs).length ≤ 1000
                rw [← HDe.out]; omega
            have hll : (ss ++ [(⟨T, (pre.map sx).length, true, .slice da d.length dc, bodyB xs⟩ : Sec)]).length ≤ 10000 := by simp; omega
            have JO := Lib.hid (join_ok (.slice va' (ss.length + 1) vc') _ _ k1.1.reads (fun s hs => (k1.2.2 s hs).1) hjo hll hdl)
            have K5 := Lib.hid k5
            have K4 := Lib.hid k4
            have K7 := Lib.hid k7
            have hoF := HJ.out.oF
            have hov : ∀ q, q < w5.heap.size → ¬ (Value.slice oa out.length oc).ownBlock = some q := fun q hq e => by have := (HJ.out.rng q (.inl (hoF q e))).1; omega
            have HOV := Lib.hid hov
            have hol : out.length ≤ pre.length := by have := HJ.out.run.le.2; rw [R5.out] at this; exact this
            clear k1 k2 k3 k4 k5 k6 k7 k8 k9 hjo hdl hll hov hoF
            gi_wp2
            refine ⟨trivial, (CallsIn.inRound l (callsIn_wide.2 JO.out)).mono ?_⟩
            rintro e W5 ⟨dv2, rfl, c5, hob5, hfr5⟩
            obtain ⟨ja, jc, rfl⟩ := hob5.form
            have C5 := Lib.hid c5
            have HOB5 := Lib.hid hob5
            have HFR5 := Lib.hid hfr5
            have hown5 := K7.out.kept c5 (fun _ _ h => h)
            have ho5 := c5.heap K5.out (fun h => h)
            have hp5 := c5.heap K4.out (fun h => h)
            have s1 : W5.cell? ⟨bo, 0, none⟩ = some (.slice oa out.length oc) := by rw [cell_of_heap ho5]; rfl
            have HO5 := Lib.hid ho5
            have HP5 := Lib.hid hp5
            clear c5 hob5 hfr5 f1 f2 f3 f4 ho5 hp5
            generalize hjl : (dataOf (ss ++ [⟨T, (pre.map sx).length, true, .slice da d.length dc, bodyB xs⟩])).length = jl at HOB5 HFR5
            clear hjl
            gi_wp2_with (gi_at_builtin; refine stop_ ?_)
            refine go_on ?_
            refine wpListIn_app_one rfl _ _ 43 rfl 33 (.slice none 0 0) 1 24 Try.underlying43 Try.infoBs rfl (.slice oa out.length oc) out.length vs [.slice ja jl jc] _ rfl rfl hown5 rfl (by simp [Value.oneCell']) (by simp only [maxLen]; omega) (by omega) ?_
            intro ov' w6 own6 c6 in6 nn6
            obtain ⟨oa', oc', rfl⟩ := own6.form
            have ho6 := c6.heap HO5.out (HOV.out bo BX.out.lo)
            have hp6 := (Chg.setCell (S := fun q => q = bo) (Chg.refl _ w6) (p := ⟨bo, 0, none⟩) (fun _ => rfl) (.slice oa' (out.length + 1) oc')).heap (c6.heap HP5.out (HOV.out bp BX.out.lp)) (fun e => BX.out.op e.symm)
            have t1 : w6.cell? ⟨bo, 0, none⟩ = some (.slice oa out.length oc) := by rw [cell_of_heap ho6]; rfl
            have t2 : w6.frozen? ⟨bo, 0, none⟩ = false := frozen_of_heap ho6 0
            have t3 : (w6.setCell ⟨bo, 0, none⟩ (.slice oa' (out.length + 1) oc')).cell? ⟨bp, 0, none⟩ = some (.slice va' (ss.length + 1) vc') := by rw [cell_of_heap hp6]; rfl
            have t4 : (w6.setCell ⟨bo, 0, none⟩ (.slice oa' (out.length + 1) oc')).frozen? ⟨bp, 0, none⟩ = false := frozen_of_heap hp6 0
            have OWN6 := Lib.hid own6
            have C6 := Lib.hid c6
            have IN6 := Lib.hid in6
            clear s1 ho6 hp6 own6 c6 in6 nn6 hown5
            gi_wp2
            have HR := RecJ.last HJ.out BX.out HG.out HLe.out.symm C12.out HQ2.out HOB2.out HDLO.out (by rw [R5.out]; exact HO3.out) HC3.out HI3.out C5.out HOB5.out.rb (fun q hq => by have := HFR5.out q hq; simpa using this) OWN6.out C6.out IN6.out
            rw [show (pre.map sx) ++ [xs] = (pre ++ [x]).map sx by rw [List.map_append, ← HX.out]; rfl] at HR
            exact ⟨(KO.out _ HR.2).1, (KO.out _ HR.2).2, _, HR.1⟩
        · have hP1 : ((P : Int) == (pre.length : Int)) = false := by simp; omega
          gi_wp2
          have cA := CA.out
          exact ⟨keepsOthers_chg cA (fun q _ h => h.elim), pre, x, rfl, rfl, ⟨out, RecI.other ⟨_, _, _, _, _, _, _, _, HJ.out⟩ cA (fun q h => h.elim) (fun q h => h.elim)⟩, fun h => hP (by rw [HPe.out, ← HX.out]; exact h.2.2)⟩
      · have hT1 : ((T : Int) == (t : Int)) = false := by simp; omega
        gi_wp2
        have cA := CA.out
        exact ⟨keepsOthers_chg cA (fun q _ h => h.elim), pre, x, rfl, rfl, ⟨out, RecI.other ⟨_, _, _, _, _, _, _, _, HJ.out⟩ cA (fun q h => h.elim) (fun q h => h.elim)⟩, fun h => hT (by rw [HTT.out, ← HX.out]; exact h.2.1)⟩
    · have UB := Lib.hid (unpack_bad _ _ xs hRB.out HKn.out hs)
      have HS := Lib.hid hs
      clear hs
      gi_wp2
      refine ⟨trivial, (CallsIn.inRound l (callsIn_wide.2 UB.out)).mono ?_⟩
      rintro e W1 ⟨er, her, rfl, c1⟩
      have her1 : (er != 0) = true := by simpa using her
      have her2 : (er == 0) = false := by simpa using her
      clear hqt hqq her
      gi_wp2
      have cA := c1.alloc (.cells #[.int .u32 0, .int .u32 0, .bool false, .slice none 0 0] 138)
      exact ⟨keepsOthers_chg cA (fun q _ h => h.elim), pre, x, rfl, rfl, ⟨out, RecI.other ⟨_, _, _, _, _, _, _, _, HJ.out⟩ cA (fun q h => h.elim) (fun q h => h.elim)⟩, fun h => HS.out (by rw [← HX.out]; exact h.1)⟩
  case done =>
    rintro D ys W hD rfl ⟨out, c, acc, ss, ov, pv, vs, F, G, hJ⟩ hK
    obtain ⟨oa, oc, hov⟩ := hJ.oown.form
    subst hov
    have hqt : W.cell? ⟨bt, 0, none⟩ = some (.int .u32 t) := by rw [cell_of_heap (hJ.chg.heap T5.out (fun h => by have := ORD.out; omega))]; rfl
    have hqo : W.cell? ⟨bo, 0, none⟩ = some (.slice oa out.length oc) := by rw [cell_of_heap hJ.ho]; rfl
    have HJ := Lib.hid hJ
    have HK := Lib.hid hK
    clear hJ hK
    gi_wp2
    refine wpIn_wide.2 ?_
    go_quiet (fail)
    have hK' : (W.drewN nq).heap[D]? = some (.deferred (some [])) := HK.out
    gi_wp2
    refine ⟨by simp, .inl ⟨_, _, rfl, run_takeDeferred hK', ?_⟩⟩
    obtain ⟨p1, p2, p3⟩ := FIN.out W D nq _ _ _ _ _ _ _ _ _ _ HJ.out hD HK.out
    have hrun := HJ.out.run
    rw [hall.out] at hrun
    exact ⟨_, results_tmp2 rfl _ _ _, _, out, F, rfl, p1, p2, .inl ⟨_, _, hrun⟩, p3⟩
  case stop =>
    rintro D cc pre W hD hSp ⟨pre', x, rfl, rfl, ⟨out, c, acc, ss, ov, pv, vs, F, G, hJ⟩, hbad⟩ hK
    obtain ⟨oa, oc, hov⟩ := hJ.oown.form
    subst hov
    have hqt : W.cell? ⟨bt, 0, none⟩ = some (.int .u32 t) := by rw [cell_of_heap (hJ.chg.heap T5.out (fun h => by have := ORD.out; omega))]; rfl
    have hqo : W.cell? ⟨bo, 0, none⟩ = some (.slice oa out.length oc) := by rw [cell_of_heap hJ.ho]; rfl
    have HJ := Lib.hid hJ
    have HK := Lib.hid hK
    have HB := Lib.hid hbad
    have HSp := Lib.hid hSp
    clear hJ hK hbad hSp
    gi_wp2
    refine wpIn_wide.2 ?_
    go_quiet (fail)
    have hK' : (W.drewN nq).heap[D]? = some (.deferred (some [])) := HK.out
    gi_wp2
    refine ⟨by simp, .inl ⟨_, _, rfl, run_takeDeferred hK', ?_⟩⟩
    obtain ⟨p1, p2, p3⟩ := FIN.out W D nq _ _ _ _ _ _ _ _ _ _ HJ.out hD HK.out
    obtain ⟨k, hk, hpre⟩ := HSp.out
    have hmap : X.take k = pre'.map sx ++ [sx x] := by rw [← hall.out, ← List.map_take, ← hpre]; simp
    have hlk : k = pre'.length + 1 := by
      have := congrArg List.length hmap
      rw [List.length_take, ← HM.out, Nat.min_eq_left hk] at this
      simpa using this
    have htk : X.take pre'.length = pre'.map sx := by
      have h2 : (X.take k).take pre'.length = X.take pre'.length := by rw [List.take_take, Nat.min_eq_left (by omega)]
      rw [← h2, hmap, List.take_left' (by simp)]
    have hget : X[pre'.length]? = some (sx x) := by
      have h2 : (X.take k)[pre'.length]? = X[pre'.length]? := by rw [List.getElem?_take, if_pos (by omega)]
      rw [← h2, hmap, List.getElem?_append_right (by simp)]
      simp
    have hrun := HJ.out.run
    rw [← htk] at hrun
    exact ⟨_, results_tmp2 rfl _ _ _, _, out, F, rfl, p1, p2, .inr ⟨_, _, _, _, hget, hrun, HB.out⟩, p3⟩
end Go.Proofs.Ytjhkhdockiocgaa
