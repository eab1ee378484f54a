/- The contract of vault.next: the next turn. -/
import Derived.Test.YtjhkhdockiocgaaVault1
namespace Go.Proofs.Ytjhkhdockiocgaa
open Go.RowKit Go.Cat Go.Shelf
attribute [local go_sem] Oper.semAt_some

/-- The greatest turn that sectors tell. -/
noncomputable def maxT (X : List (List UInt8)) : Nat := X.foldl (fun a x => max a (turnB x)) 0
theorem maxT_snoc (X : List (List UInt8)) (x : List UInt8) : maxT (X ++ [x]) = max (maxT X) (turnB x) := by simp [maxT, List.foldl_append]
theorem ofBe_lt4 (x : List UInt8) : ofBe (x.take 4) < 4294967296 := by
  have h : ∀ (l : List UInt8) (a : Nat), l.foldl (fun a b => a * 256 + b.toNat) a < (a + 1) * 256 ^ l.length := by
    intro l
    induction l with
    | nil => intro a; simp
    | cons b l ih =>
      intro a
      have h1 := ih (a * 256 + b.toNat)
      have h2 := b.toNat_lt
      rw [List.foldl_cons, List.length_cons, Nat.pow_succ]
      have h3 : (a * 256 + b.toNat + 1) * 256 ^ l.length ≤ (a + 1) * 256 * 256 ^ l.length := Nat.mul_le_mul_right _ (by omega)
      rw [Nat.mul_comm (256 ^ l.length) 256, ← Nat.mul_assoc]
      omega
  have h1 := h (x.take 4) 0
  have h2 : (x.take 4).length ≤ 4 := List.length_take_le _ _
  have h3 : 256 ^ (x.take 4).length ≤ 256 ^ 4 := Nat.pow_le_pow_right (by omega) h2
  unfold ofBe
  simp only [Nat.zero_add, Nat.one_mul] at h1
  omega
theorem turnB_lt (x : List UInt8) : turnB x < 4294967296 := by
  unfold turnB
  split
  · exact ofBe_lt4 x
  · omega
theorem maxT_lt (X : List (List UInt8)) : maxT X < 4294967296 := by
  have h : ∀ (X : List (List UInt8)) (a : Nat), a < 4294967296 → X.foldl (fun a x => max a (turnB x)) a < 4294967296 := by
    intro X
    induction X with
    | nil => intro a h; simpa using h
    | cons x X ih => intro a h; exact ih _ (by show max a (turnB x) < _; have := turnB_lt x; omega)
  exact h X 0 (by omega)
theorem maxT_le {X : List (List UInt8)} {m : Nat} (h : ∀ x ∈ X, turnB x ≤ m) : maxT X ≤ m := by
  have h2 : ∀ (X : List (List UInt8)) (a : Nat), (∀ x ∈ X, turnB x ≤ m) → a ≤ m → X.foldl (fun a x => max a (turnB x)) a ≤ m := by
    intro X
    induction X with
    | nil => intro a _ h; simpa using h
    | cons x X ih => intro a h1 h; exact ih _ (fun y hy => h1 y (by simp [hy])) (by show max a (turnB x) ≤ _; have := h1 x (by simp); omega)
  exact h2 X 0 h (by omega)
theorem maxT_ge {X : List (List UInt8)} {x : List UInt8} (h : x ∈ X) : turnB x ≤ maxT X := by
  have h2 : ∀ (X : List (List UInt8)) (a : Nat), a ≤ X.foldl (fun a x => max a (turnB x)) a ∧ ∀ x ∈ X, turnB x ≤ X.foldl (fun a x => max a (turnB x)) a := by
    intro X
    induction X with
    | nil => intro a; simp
    | cons y X ih =>
      intro a
      obtain ⟨h1, h2⟩ := ih (max a (turnB y))
      refine ⟨by simp only [List.foldl_cons]; omega, fun z hz => ?_⟩
      simp only [List.foldl_cons]
      rcases List.mem_cons.1 hz with rfl | hz
      · omega
      · exact h2 z hz
  exact (h2 X 0).2 x h

set_option maxRecDepth 100000 in
set_option maxHeartbeats 4000000 in
theorem vnext (w : World) (D : Nat) (lv wv : Value) (d : Dev) (h : DevIs w D lv wv d) (hd : d.down = false) (h1 : 1 ≤ d.l.length) (hw : d.waits = []) (hX : KnownAll d.l) (hm : maxT d.l < 4294967295) :
    Calls Try.prog 85 #[.pointer (some ⟨D, 0, none⟩)] w fun e w' => e = .returned (.tuple #[.int .u32 ((maxT d.l + 1 : Nat) : Int), .int .i64 0]) ∧ Chg (fun _ => False) w w' := by
  have HLN := Lib.hid (len_any w D lv wv d h)
  have hm8 := h.many
  have R := read_ok w D lv wv d 0 d.l.length h hd (by omega) (by rw [hw]; simp)
  have hro : readOf d.l d.waits 0 d.l.length = d.l := by rw [hw, readOf_nil, List.drop_zero, List.take_length]
  rw [hro] at R
  have R := Lib.hid R
  obtain ⟨X, hXe⟩ : ∃ X, X = d.l := ⟨_, rfl⟩
  rw [← hXe] at HLN R hX hm h1 hm8 ⊢
  obtain ⟨M, hMe⟩ : ∃ M, M = maxT X := ⟨_, rfl⟩
  have HME := Lib.hid hMe
  rw [← hMe] at hm ⊢
  have h64 : ∀ x ∈ X, x.length = 64 := fun x hx => (hX x hx).1
  obtain ⟨m, hmm⟩ : ∃ m, m = X.length := ⟨_, rfl⟩
  have hfl := flatten_len h64
  rw [← hmm] at HLN R h1 hm8 hfl
  have HX := Lib.hid hX
  have HM := Lib.hid hmm
  have H64 := Lib.hid h64
  have e1 : ((M + 1 : Nat) : Int) = (M : Int) + 1 := by omega
  have E1 := Lib.hid e1
  clear h hd hw hX h64 hmm hro hXe hMe e1
  refine (callsIn_wide (n := 6)).1 ?_
  have h1' : 1 ≤ 6 := by omega
  refine callsIn_of_wp_marks Try.func85 rfl trivial ?_ rfl
  simp only [Try.ntmps85, List.size_toArray, List.length_cons, List.length_nil, Nat.reduceAdd, Nat.reduceSub, Array.replicate_succ, Array.replicate_zero, List.push_toArray, List.append_toArray, List.nil_append, List.cons_append]
  gi_wp2
  refine ⟨trivial, (callsIn_wide.2 HLN.out).mono ?_⟩
  rintro e w' ⟨rfl, rfl⟩
  gi_wp2
  refine ⟨trivial, (callsIn_wide.2 R.out).mono ?_⟩
  rintro e w1 ⟨v1, rfl, hob, c1, f1⟩
  obtain ⟨va, cap, rfl⟩ := hob.form
  rw [hfl] at hob ⊢
  obtain ⟨g, o, rfl⟩ : ∃ g o, va = some ⟨g, o, none⟩ := by
    rcases hob.2 with ⟨hv, h0⟩ | ⟨g, o, c, hv, _⟩
    · simp only [Value.slice.injEq] at hv; omega
    · simp only [Value.slice.injEq] at hv; exact ⟨g, o, hv.1⟩
  have hcap : m * 64 ≤ cap := by have := hob.cap_ge; omega
  have HV := Lib.hid hob.rb
  have C1 := Lib.hid c1
  clear hob c1 f1 hfl
  gi_wp2
  refine ⟨trivial, (callsIn_wide.2 (chunk_any _ _ _ _)).mono ?_⟩
  rintro e w5 ⟨rfl, hw5⟩
  gi_wp2
  rw [← hw5]
  have cc1 : Chg (fun _ => False) w1 w5 := by rw [hw5]; exact (((Chg.refl _ w1).alloc _).alloc _).alloc _
  have z5 : w5.heap.size = w1.heap.size + 3 := by rw [hw5]; simp
  have b0 : w5.heap[w1.heap.size]? = some (.cells #[.int .u32 0] 51 (0, 0)) := by
    rw [hw5]; exact Chg.heap (((Chg.refl (fun _ => False) _).alloc _).alloc _) (heap_at_new w1 _ _ rfl) (fun h => h)
  have b4 : w5.heap[w1.heap.size + 1]? = some (.cells #[.slice (some ⟨g, o, none⟩) (m * 64) cap] 33 (0, 0)) := by
    rw [hw5]; exact Chg.heap ((Chg.refl (fun _ => False) _).alloc _) (heap_at_new _ _ _ (by simp)) (fun h => h)
  have b5 : w5.heap[w1.heap.size + 1 + 1]? = some (.cells #[.int .i64 64] 3 (0, 0)) := by
    rw [hw5]; exact heap_at_new _ _ _ (by simp)
  obtain ⟨bt, e0⟩ : ∃ b, b = w1.heap.size := ⟨_, rfl⟩
  obtain ⟨Bs, e4⟩ : ∃ b, b = w1.heap.size + 1 := ⟨_, rfl⟩
  obtain ⟨Bn, e5⟩ : ∃ b, b = w1.heap.size + 1 + 1 := ⟨_, rfl⟩
  rw [← e5, ← e4, ← e0]
  rw [← e0] at b0
  rw [← e4] at b4
  rw [← e5] at b5
  have cw5 : Chg (fun _ => False) w w5 := C1.out.trans cc1
  have zz := C1.out.size
  have ORD : Hid (w.heap.size ≤ bt ∧ bt + 1 = Bs ∧ Bs + 1 = Bn ∧ Bn + 1 = w5.heap.size) := by show _ ∧ _; omega
  have q4 : w5.cell? ⟨Bs, 0, none⟩ = some (.slice (some ⟨g, o, none⟩) (m * 64) cap) := by rw [cell_of_heap b4]; rfl
  have q5 : w5.cell? ⟨Bn, 0, none⟩ = some (.int .i64 64) := by rw [cell_of_heap b5]; rfl
  have HV5 := Lib.hid (HV.out.kept cc1 (fun _ _ h => h))
  have hvl := HV.out.lt'
  have HVL : Hid (∀ q, (Value.slice (some ⟨g, o, none⟩) (m * 64) cap).ownBlock = some q → q < bt) := fun q hq => by have := hvl q hq; omega
  clear hw5 e0 e4 e5 cc1 z5 zz b4 b5 hvl
  obtain ⟨sx, hsx⟩ : ∃ sx : Fin m → List UInt8, ∀ i, X[i.1]? = some (sx i) := ⟨fun i => X[i.1]'(by rw [← HM.out]; exact i.2), fun i => List.getElem?_eq_getElem _⟩
  have HSX := Lib.hid hsx
  have CW5 := Lib.hid cw5
  clear hsx cw5
  have hrbs : Hid (∀ (i : Fin m) (W : World), Chg (fun q => q = bt) w5 W → RB W (secV g o i.1) (sx i)) := fun i W hc => by
    have h1 := sec_rb HV5.out H64.out i.1 (sx i) (HSX.out i)
    refine h1.kept hc (fun q hq h => ?_)
    have h2 := HVL.out q (by simpa [Value.ownBlock, secV] using hq)
    omega
  have hkn : Hid (∀ i : Fin m, known (sx i)) := fun i => HX.out _ (List.mem_of_getElem? (HSX.out i))
  have hfin : (List.finRange m).map (fun i : Fin m => i.1) = List.range m := by apply List.ext_getElem <;> simp
  have hall : Hid ((List.finRange m).map sx = X) := by
    show _ = _
    apply List.ext_getElem?
    intro i
    rw [List.getElem?_map]
    by_cases hi : i < m
    · have h := HSX.out ⟨i, hi⟩
      simp only at h
      rw [h, List.getElem?_eq_getElem (by simpa using hi)]
      simp
    · rw [List.getElem?_eq_none (by simpa using hi), List.getElem?_eq_none (by rw [← HM.out]; omega)]
      rfl
  refine wpIn_rangeFunc_ownF (α := Fin m) rfl h1' (gf := 132) (lb := #[.pointer (some ⟨Bs, 0, none⟩), .pointer (some ⟨Bn, 0, none⟩)]) rfl trivial (enters_of Try.func132 (by kernel_rfl) rfl)
    (chunk_stops (List.finRange m) (fun i => i.1) 5 (by omega) Bs Bn g o m cap hfin (by omega) hcap w5 q4 q5) keep2_t (keep2_b (by have := ORD.out; omega) (by have := ORD.out; omega)) (Below.refl _ _) (fun _ => rfl)
    (fun pre W => W.heap[bt]? = some (.cells #[.int .u32 (maxT (pre.map sx))] 51 (0, 0)) ∧ Chg (fun q => q = bt) w5 W)
    (fun _ _ _ => False)
    (fun s A B row hs hg hr => ⟨(Chg.of_grownBy hg).heap hs.1 ((NoCells.of_row hr).notB hs.1), hs.2.trans' (Chg.of_grownBy hg) (fun i hi hs => by have := (hr i hs).1; omega)⟩)
    (fun c s A B row hs hg hr => hs)
    ⟨b0, Chg.refl _ _⟩
    (fun x => { tmps := #[Value.pointer (some ⟨D, 0, none⟩), undef, Value.int .u32 0, Value.int .i64 0, Value.slice (some ⟨g, o, none⟩) (m * 64) cap, Value.int .i64 0, Value.pointer (some ⟨bt, 0, none⟩), secV g o x.1, Value.tuple #[Value.slice (some ⟨g, o, none⟩) (m * 64) cap, Value.int .i64 0], Value.pointer (some ⟨D, 0, none⟩), Value.pointer (some ⟨D, 0, none⟩), Value.int .i64 m, Value.tuple #[Value.slice (some ⟨g, o, none⟩) (m * 64) cap, Value.int .i64 0], Value.slice (some ⟨g, o, none⟩) (m * 64) cap, Value.int .i64 0, Value.int .i64 0, Value.bool false, undef, Value.slice (some ⟨g, o, none⟩) (m * 64) cap, Value.func (Fn.func 132) #[] #[Value.pointer (some ⟨Bs, 0, none⟩), Value.pointer (some ⟨Bn, 0, none⟩)], secV g o x.1, undef, undef, undef, undef, undef, undef, undef, undef], defers := [] }) ?assign ?body ?done ?stop
  case assign =>
    intro l x W K hK
    gi_wp2
    exact hK
  case body =>
    rintro l pre x W ⟨hb, hc⟩ hlen
    obtain ⟨tn, htn⟩ : ∃ tn, tn = turnB (sx x) := ⟨_, rfl⟩
    have HTN := Lib.hid htn
    have TA : Hid (Calls Try.prog 113 #[secV g o x.1] W.drew fun e w' => e = .returned (.int .u32 tn) ∧ Chg (fun _ => False) W.drew w') := by
      have := turn_any _ _ (sx x) ((hrbs.out x W hc).drew) (hkn.out x)
      rw [← htn] at this
      exact this
    clear htn
    obtain ⟨M', hM⟩ : ∃ M, M = maxT (pre.map sx) := ⟨_, rfl⟩
    have HMM := Lib.hid hM
    rw [← hM] at hb
    obtain ⟨mx, hmxe⟩ : ∃ mx, mx = max M' tn := ⟨_, rfl⟩
    have HMX2 := Lib.hid hmxe
    have hmx : (if M' < tn then (tn : Int) else (M' : Int)) = (mx : Int) := by split <;> omega
    clear hM hmxe
    have hq : W.cell? ⟨bt, 0, none⟩ = some (.int .u32 M') := by rw [cell_of_heap hb]; rfl
    have HB := Lib.hid hb
    have HC := Lib.hid hc
    clear hb hc
    gi_wp2
    have hmo : Try.prog.follows .mixedOrders = true := by kernel_rfl
    gi_region_with_o (refine ⟨trivial, (CallsIn.inRound l (callsIn_wide.2 TA.out)).mono ?_⟩; rintro e W' ⟨rfl, c'⟩; have C' := Lib.hid c'; have hq' : W'.cell? ⟨bt, 0, none⟩ = some (.int .u32 M') := c'.cell (by rw [World.cell?_drew]; exact hq) (fun h => h); have hf' : W'.frozen? ⟨bt, 0, none⟩ = false := frozen_of_heap (c'.heap HB.out (fun h => h)) 0; clear c')
    all_goals
      gi_wp2
      have cS : Chg (fun q => q = bt) W' (W'.setCell ⟨bt, 0, none⟩ (.int .u32 mx)) := Chg.setCell (S := fun q => q = bt) (Chg.refl _ W') (p := ⟨bt, 0, none⟩) (fun _ => rfl) _
      have cW : Chg (fun q => q = bt) W (W'.setCell ⟨bt, 0, none⟩ (.int .u32 mx)) := (((Chg.refl (fun _ => False) W).drew.trans C'.out).mono (fun _ _ h => h.elim)).trans cS
      have hb' := Cat.heap_setCell_same (C'.out.heap (show W.drew.heap[bt]? = _ from HB.out) (fun h => h)) 0 (.int .u32 mx)
      have hkp : ∀ k, k ≠ bt → k < W.heap.size → (W'.setCell ⟨bt, 0, none⟩ (.int .u32 mx)).heap[k]? = W.heap[k]? := fun k hk hl => cW.block k hl hk
      have hO := ORD.out
      have hsz := HC.out.size
      exact ⟨keepsOthers_chg cW (fun q _ h => by have e : q = bt := h; subst e; exact ⟨_, HB.out, rfl⟩), ⟨hkp Bs (by omega) (by omega), hkp Bn (by omega) (by omega)⟩, by rw [List.map_append, List.map_cons, List.map_nil, maxT_snoc, ← HMM.out, ← HTN.out, ← HMX2.out]; exact hb', HC.out.trans' cW (fun _ _ h => h)⟩
  case done =>
    rintro Df ys W hD rfl ⟨hb, hc⟩ hK
    rw [hall.out, ← HME.out] at hb
    have hq : W.cell? ⟨bt, 0, none⟩ = some (.int .u32 M) := by rw [cell_of_heap hb]; rfl
    have hz : ((M : Int) == 4294967295) = false := by simp; omega
    have HK := Lib.hid hK
    have HB := Lib.hid hb
    have HC := Lib.hid hc
    clear hK hb hc
    gi_wp2
    refine ⟨by simp, .inl ⟨_, _, rfl, run_takeDeferred HK.out, ?_⟩⟩
    have hO := ORD.out
    have cP : Chg (fun q => q = Df) W (W.putObj Df (.deferred none)) := ⟨rfl, rfl, rfl, by simp, fun q _ hq => World.putObj_heap_other hq⟩
    exact ⟨_, results_tmp2 rfl _ _ _, by rw [E1.out]; rfl, (CW5.out.new HC.out (fun q h => by omega)).new cP (fun q h => by omega)⟩
  case stop =>
    rintro Df c pre W hD _ h _
    exact h.elim
end Go.Proofs.Ytjhkhdockiocgaa
