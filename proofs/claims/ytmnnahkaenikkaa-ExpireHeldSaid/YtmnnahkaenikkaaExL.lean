/- PutNil, Play19, L19, L19b, L19c, L19d, merged. -/
import Derived.Test.YtmnnahkaenikkaaRowAct16
import Derived.Test.YtmnnahkaenikkaaPlay20
import Derived.Test.YtmnnahkaenikkaaExS
/- Stock.Put of no points, from a row at any address. -/
namespace Go.Proofs.Ytmnnahkaenikkaa
open Go.RowKit Go.Cat
set_option maxRecDepth 100000 in
theorem index_putz (w : World) (a : Option Addr) (c : Nat) : Calls Try.prog 76 #[.slice a 0 c, .func (.func 77) #[] #[]] w fun e w' => e = .returned (.int .i64 (-1)) ∧ w = w' := by
  go_enter Try.func76, Try.ntmps76
  go_wp2_with fail
  go_loopw [8] (fun ci wr => ci = .int .i64 0 ∧ w = wr) (fun _ _ => 0)
  case atStart => exact ⟨rfl, rfl⟩
  case round =>
    obtain ⟨rfl, rfl⟩ := hrel
    go_wp2_with fail
    go_ret
    exact ⟨rfl, rfl⟩
set_option maxRecDepth 100000 in
theorem contains_putz (w : World) (a : Option Addr) (c : Nat) : Calls Try.prog 51 #[.slice a 0 c, .func (.func 77) #[] #[]] w fun e w' => e = .returned (.bool false) ∧ Chg (fun _ => False) w w' := by
  have IX := Lib.hid (index_putz w a c)
  go_enter Try.func51, Try.ntmps51
  go_wp2_with fail
  refine IX.out.mono ?_
  rintro e w2 ⟨rfl, rfl⟩
  go_wp2_with fail
  go_ret
  exact ⟨rfl, Chg.refl _ _⟩
set_option maxRecDepth 100000 in
theorem index_markz (w : World) (a : Option Addr) (c : Nat) (x0 : Value) : Calls Try.prog 76 #[.slice a 0 c, .func (.func 52) #[] #[x0]] w fun e w' => e = .returned (.int .i64 (-1)) ∧ w = w' := by
  go_enter Try.func76, Try.ntmps76
  go_wp2_with fail
  go_loopw [8] (fun ci wr => ci = .int .i64 0 ∧ w = wr) (fun _ _ => 0)
  case atStart => exact ⟨rfl, rfl⟩
  case round =>
    obtain ⟨rfl, rfl⟩ := hrel
    go_wp2_with fail
    go_ret
    exact ⟨rfl, rfl⟩
set_option maxRecDepth 100000 in
theorem contains_markz (w : World) (a : Option Addr) (c : Nat) (x0 : Value) : Calls Try.prog 51 #[.slice a 0 c, .func (.func 52) #[] #[x0]] w fun e w' => e = .returned (.bool false) ∧ Chg (fun _ => False) w w' := by
  have IX := Lib.hid (index_markz w a c x0)
  go_enter Try.func51, Try.ntmps51
  go_wp2_with fail
  refine IX.out.mono ?_
  rintro e w2 ⟨rfl, rfl⟩
  go_wp2_with fail
  go_ret
  exact ⟨rfl, Chg.refl _ _⟩
set_option maxRecDepth 100000 in
theorem joined_z (w : World) (R : Nat) (v : Value) (l : List Pt) (a : Option Addr) (c : Nat) (hR : CellAt w R v) (h : Pts w v l) (hl : l.length ≤ 10000) :
    Calls Try.prog 78 #[.pointer (some ⟨R, 0, none⟩), .slice a 0 c] w fun e w' => ∃ v', e = .returned v' ∧ OPts w' v' l ∧ (∀ k, v'.ownBlock = some k → w.heap.size ≤ k) ∧ Chg (fun _ => False) w w' := by
  have q0 := hR.cell
  have CL := Lib.hid (clone_pts w v l h (by omega))
  clear hR h hl
  go_enter Try.func78, Try.ntmps78
  go_wp2_with fail
  refine CL.out.mono ?_
  rintro e w1 ⟨v1, rfl, o1, f1, c1⟩
  have O1 := Lib.hid o1
  have F1 := Lib.hid f1
  have C1 := Lib.hid c1
  clear o1 f1 c1 q0 CL
  go_wp2_with fail
  go_loopw [5, 15] (fun ov ci wr => ov = v1 ∧ ci = .int .i64 0 ∧ w1 = wr) (fun _ _ _ => 0)
  case atStart => exact ⟨rfl, rfl, rfl⟩
  case round =>
    obtain ⟨rfl, rfl, rfl⟩ := hrel
    go_wp2_with fail
    go_ret
    exact ⟨_, rfl, O1.out, F1.out, C1.out⟩
theorem putAll_nil (l : List Pt) : putAll l [] = l := rfl
set_option maxRecDepth 100000 in
set_option maxHeartbeats 1000000 in
theorem sput_z (w : World) (R : Nat) (v : Value) (l : List Pt) (a : Option Addr) (c : Nat) (h : Ser w R v l) :
    Calls Try.prog 53 #[.pointer (some ⟨R, 0, none⟩), .slice a 0 c] w fun e w' => e = .returned (.tuple #[.int .i64 0, .int .i64 0]) ∧ SerOut w R v l w' := by
  have CT := Lib.hid (contains_putz w a c)
  have q0 := h.at_.cell
  have H := Lib.hid h
  have i1 : ¬ (256 : Int) < (l.length : Nat) := by have := h.few; omega
  have ew : IntKind.i64.wrap ((l.length : Int) - l.length) = 0 := by rw [Int.sub_self]; rfl
  obtain ⟨n, hn⟩ : ∃ n, n = l.length := ⟨_, rfl⟩
  have HN := Lib.hid hn
  rw [← hn] at i1 ew
  clear h hn
  go_enter Try.func53, Try.ntmps53
  go_wp2_with fail
  refine CT.out.mono ?_
  rintro e w1 ⟨rfl, c1⟩
  have JN := Lib.hid (joined_z w1 R v l a c (H.out.at_.kept c1 (fun h => h)) (Reads.kept H.out.pts c1 (fun _ _ h => h)) (by have := H.out.few; omega))
  have C1 := Lib.hid c1
  clear c1
  go_wp2_with fail
  refine JN.out.mono ?_
  rintro e w2 ⟨v2, rfl, o2, f2, c2⟩
  obtain ⟨a2, k2, hv2⟩ := o2.form
  rw [← HN.out] at hv2
  have c12 := C1.out.trans c2
  have C2 := Lib.hid c12
  have q2 : w2.cell? ⟨R, 0, none⟩ = some v := c12.cell q0 (fun h => h)
  obtain ⟨va, vc, hv⟩ := Reads.form H.out.pts
  rw [← HN.out] at hv
  subst hv hv2
  obtain ⟨TR, hbR⟩ := H.out.at_.kept c12 (fun h => h)
  have fR := frozen_of_heap hbR
  have HBR := Lib.hid hbR
  have O2 := Lib.hid o2
  have F2 := Lib.hid f2
  have hR := H.out.lt.1
  have c1s := C1.out.size
  have HRL := Lib.hid hR
  have H1S := Lib.hid c1s
  clear o2 f2 c2 JN q0 c12 hbR hR c1s
  go_wp2_with fail
  go_ret2
  have c3 : Chg (fun k => k = R) w2 (w2.setCell ⟨R, 0, none⟩ (.slice a2 n k2)) := (Chg.refl (fun k => k = R) w2).setCell (p := ⟨R, 0, none⟩) (fun _ => rfl) _
  have hap : ¬ (Value.slice a2 n k2).ownBlock = some R := fun h => by have := F2.out R h; have := HRL.out; have := H1S.out; omega
  exact ⟨rfl, _, ⟨⟨TR, Cat.heap_setCell_same HBR.out 0 _⟩, Reads.kept O2.out.reads c3 (fun k hk h => hap (by rw [← h]; exact hk)), H.out.srt, H.out.few, hap⟩, fun k hk => .inr (by have := F2.out k hk; have := H1S.out; omega), (C2.out.mono (fun _ _ h => h.elim)).trans c3⟩
set_option maxRecDepth 100000 in
set_option maxHeartbeats 1000000 in
theorem stput_z (w : World) (F : Nat → Prop) (R : Nat) (s : St) (a : Option Addr) (c : Nat) (h : StIs w F R s) :
    Calls Try.prog 26 #[.pointer (some ⟨R, 0, none⟩), .slice a 0 c] w fun e w' => e = .returned (.tuple #[.int .i64 (s.put []).1, .int .i64 (s.put []).2.1]) ∧ StIs w' (ext F w w') R (s.put []).2.2 ∧ Chg F w w' := by
  obtain ⟨R1, vr, vm, vl, h⟩ := h
  have e0 : s.put [] = (0, 0, s) := by
    have : s.raw.length ≤ 256 := h.ser.few
    unfold St.put sput badT
    rw [if_neg (by simp), if_neg (by simp), if_neg (by rw [putAll_nil]; omega), putAll_nil, Int.sub_self]
  rw [e0]
  obtain ⟨W, hW⟩ : ∃ W, W = w.alloc (.cells #[.pointer (some ⟨R, 0, none⟩)] 28) := ⟨_, rfl⟩
  have cW : Chg (fun _ => False) w W := by rw [hW]; exact (Chg.refl _ w).alloc _
  have hb : W.cell? ⟨w.heap.size, 0, none⟩ = some (.pointer (some ⟨R, 0, none⟩)) := by rw [hW, World.cell?_alloc_new]; rfl
  have hA := h.kept cW (fun _ _ h => h)
  have CM := Lib.hid (contains_markz W a c (.pointer (some ⟨w.heap.size, 0, none⟩)))
  have HA := Lib.hid hA
  have CW := Lib.hid cW
  have HW := Lib.hid hW
  have HB := Lib.hid hb
  rw [hW] at hb
  clear e0 hA h cW hW
  go_enter Try.func26, Try.ntmps26
  go_wp2_with fail
  rw [← HW.out]
  refine CM.out.mono ?_
  rintro e w1 ⟨rfl, c1⟩
  have hA1 := HA.out.kept c1 (fun _ _ h => h)
  obtain ⟨q0, -⟩ := hA1.cells
  have hb1 := c1.cell HB.out (fun h => h)
  have SP := Lib.hid (sput_z w1 R1 vr s.raw a c hA1.ser)
  have C1 := Lib.hid c1
  have HA1 := Lib.hid hA1
  clear c1 hA1 hb
  go_wp2_with fail
  refine SP.out.mono ?_
  rintro e w2 ⟨rfl, ho⟩
  obtain ⟨k1, k2⟩ := HA1.out.pts ho HA1.out.inv.tks
  have K1 := Lib.hid k1
  have K2 := Lib.hid k2
  clear ho k1 k2 q0 hb1
  go_wp2_with fail
  go_ret2
  have z1 := CW.out.size
  have z2 := C1.out.size
  exact ⟨rfl, ext_two (b := w1) (by omega) K2.out.size (K1.out.mono (fun k hk => by
    rcases hk with h | h
    · exact .inl (.inl h)
    · exact .inr h)), ((CW.out.trans C1.out).mono (fun _ _ h => h.elim)).trans K2.out⟩
/-- Put of a row that came in. -/
theorem stputz_c (w : World) (F : Nat → Prop) (R : Nat) (s : St) (mv : Value) (l : List Pt) (h : StIs w F R s) (hm : PtsZ w mv l) (hml : l.length ≤ 1000) :
    Calls Try.prog 26 #[.pointer (some ⟨R, 0, none⟩), mv] w fun e w' => e = .returned (.tuple #[.int .i64 (s.put l).1, .int .i64 (s.put l).2.1]) ∧ StIs w' (ext F w w') R (s.put l).2.2 ∧ Chg F w w' := by
  rcases hm with hm | ⟨rfl, a, c, rfl⟩
  · exact stput_c w F R s mv l h hm hml
  · exact stput_z w F R s a c h
end Go.Proofs.Ytmnnahkaenikkaa

/- Law 19: play. -/
namespace Go.Proofs.Ytmnnahkaenikkaa
open Go.RowKit Go.Cat
set_option maxRecDepth 100000 in
set_option maxHeartbeats 20000000 in
theorem play19_c (w : World) (v : Value) (L : List Act16) (h : Acts16 w v L) (hfew : ∀ a ∈ L, a.l.length ≤ 40) (hl : L.length ≤ 1000) :
    Calls Try.prog 17 #[v] w fun e w' => ∃ R, e = .returned (.pointer (some ⟨R, 0, none⟩)) ∧ StIs w' (fun k => w.heap.size ≤ k ∧ k < w'.heap.size) R (playL id L) ∧ Chg (fun _ => False) w w' := by
  obtain ⟨va, vc, rfl⟩ := Reads.form h.rd
  obtain ⟨n, hn⟩ : ∃ n, n = L.length := ⟨_, rfl⟩
  have HN := Lib.hid hn
  have HR : Hid (Reads w 5 (.slice va n vc) n (L.flatMap Act16.cells)) := by have := h.rd; rw [← hn] at this; exact this
  have H := Lib.hid h
  have HFW := Lib.hid hfew
  rw [← hn] at hl ⊢
  clear h hn hfew
  go_enter Try.func17, Try.ntmps17
  go_wp2_with fail
  refine (newst_c w).mono ?_
  rintro e w1 ⟨R, rfl, hs1, c1⟩
  have HS1 := Lib.hid hs1
  have C1 := Lib.hid c1
  clear hs1 c1
  go_wp2_with fail
  go_loopw [9] (fun ci wr => ∃ k : Nat, k ≤ n ∧ ci = .int .i64 k ∧ Hid (StIs wr (fun q => w.heap.size ≤ q ∧ q < wr.heap.size) R (playL id (L.take k))) ∧ Hid (Chg (fun _ => False) w wr)) (fun ci _ => n - (intOf ci).toNat)
  case atStart => exact ⟨0, by omega, rfl, HS1.out, C1.out⟩
  case round =>
    obtain ⟨k, hk, rfl, hS, hC⟩ := hrel
    clear HS1 C1
    by_cases hlt : k < n
    · obtain ⟨p, hp⟩ := at_lt (show k < L.length by rw [← HN.out]; exact hlt)
      obtain ⟨g', o, rfl, g1, g2, g3⟩ := reads_some (n := n) HR.out (by omega)
      have hld := load_act wr (fun j u hj => hC.out.cell (g3 j u hj) (fun h => h)) hp
      have hpm := List.mem_of_getElem? hp
      have hpz := (H.out.pts p hpm).same hC.out
      obtain ⟨pa, pc, hlv⟩ := hpz.form
      rw [hlv] at hld hpz
      obtain ⟨s, hs⟩ : ∃ s, s = playL id (L.take k) := ⟨_, rfl⟩
      have e1 : playL id (L.take (k + 1)) = playS id s p := by rw [List.take_add_one, hp, hs]; unfold playL; rw [List.foldl_append]; rfl
      rw [← hs] at hS
      obtain ⟨m, hm⟩ : ∃ m, m = p.l.length := ⟨_, rfl⟩
      have hm40 : m ≤ 40 := by rw [hm]; exact HFW.out p hpm
      have hat := Lib.hid (H.out.ats p hpm)
      rw [← hm] at hld hpz
      obtain ⟨Wb, hWb⟩ : ∃ W, W = wr.alloc (.cells #[.int .i64 p.kind, .int .i64 p.at_, .slice pa m pc, .int .i64 p.lo, .int .i64 p.hi] 72) := ⟨_, rfl⟩
      have cb : Chg (fun _ => False) wr Wb := by rw [hWb]; exact (Chg.refl _ wr).alloc _
      have zb : Wb.heap.size = wr.heap.size + 1 := by rw [hWb]; simp
      have q0 : Wb.cell? ⟨wr.heap.size, 0, none⟩ = some (.int .i64 p.kind) := by rw [hWb, World.cell?_alloc_new]; rfl
      have q1 : Wb.cell? ⟨wr.heap.size, 1, none⟩ = some (.int .i64 p.at_) := by rw [hWb, World.cell?_alloc_new]; rfl
      have q2 : Wb.cell? ⟨wr.heap.size, 2, none⟩ = some (.slice pa m pc) := by rw [hWb, World.cell?_alloc_new]; rfl
      have q3 : Wb.cell? ⟨wr.heap.size, 3, none⟩ = some (.int .i64 p.lo) := by rw [hWb, World.cell?_alloc_new]; rfl
      have q4 : Wb.cell? ⟨wr.heap.size, 4, none⟩ = some (.int .i64 p.hi) := by rw [hWb, World.cell?_alloc_new]; rfl
      have E1 := Lib.hid e1
      have HPZ := Lib.hid (hpz.same cb)
      have HM := Lib.hid hm
      have HS := Lib.hid (hS.out.same cb)
      have CB := Lib.hid cb
      have ZB := Lib.hid zb
      have HWB := Lib.hid hWb
      have CWB := Lib.hid (hC.out.trans cb)
      rw [hWb] at q0 q1 q2 q3 q4
      obtain ⟨kd, hkd⟩ : ∃ kd, kd = p.kind := ⟨_, rfl⟩
      rw [← hkd] at q0 hld hWb
      have HKD := Lib.hid hkd
      have FIN : Hid (∀ (w2 : World) (s2 : St), StIs w2 (ext (fun q => w.heap.size ≤ q ∧ q < wr.heap.size) Wb w2) R s2 → Chg (fun q => w.heap.size ≤ q ∧ q < wr.heap.size) Wb w2 → playS id s p = s2 → Hid (StIs w2 (fun q => w.heap.size ≤ q ∧ q < w2.heap.size) R (playL id (L.take (k + 1)))) ∧ Hid (Chg (fun _ => False) w w2)) := fun w2 s2 h2 c2 e2 => by
        have z1 := hC.out.size
        have z2 := ZB.out
        have z3 := c2.size
        refine ⟨?_, (CWB.out).new c2 (fun q hq => hq.1)⟩
        show StIs _ _ _ _
        rw [E1.out, e2]
        exact h2.mono (fun q hq => by
          rcases hq with hq | hq
          · exact ⟨hq.1, by omega⟩
          · exact ⟨by omega, hq.2⟩)
      clear g1 g2 g3 hp hpm hlv hpz hs e1 hm cb zb hS hkd
      rw [← HKD.out] at q1 q2 q3 q4
      by_cases k012 : kd = 0 ∨ kd = 1 ∨ kd = 2
      · have eS : Hid (playS id s p = (s.put p.l).2.2) := by
          show _ = _
          unfold playS
          rw [← HKD.out, if_pos k012, List.map_id]
        have PC := Lib.hid (stputz_c Wb _ R s (.slice pa m pc) p.l HS.out HPZ.out (by have := HM.out; omega))
        rcases k012 with rfl | rfl | rfl
        · go_wp2_with (first | refine wpList_load rfl 72 _ rfl _ _ rfl hld ?_)
          rw [← hWb]
          refine PC.out.mono ?_
          rintro e w2 ⟨rfl, h2, c2⟩
          obtain ⟨F1, F2⟩ := FIN.out w2 _ h2 c2 eS.out
          clear h2 c2
          go_wp2_with fail
          exact ⟨⟨k + 1, by omega, rfl, F1.out, F2.out⟩, by simp only [intOf]; omega⟩
        · go_wp2_with (first | refine wpList_load rfl 72 _ rfl _ _ rfl hld ?_)
          rw [← hWb]
          refine PC.out.mono ?_
          rintro e w2 ⟨rfl, h2, c2⟩
          obtain ⟨F1, F2⟩ := FIN.out w2 _ h2 c2 eS.out
          clear h2 c2
          go_wp2_with fail
          exact ⟨⟨k + 1, by omega, rfl, F1.out, F2.out⟩, by simp only [intOf]; omega⟩
        · go_wp2_with (first | refine wpList_load rfl 72 _ rfl _ _ rfl hld ?_)
          rw [← hWb]
          refine PC.out.mono ?_
          rintro e w2 ⟨rfl, h2, c2⟩
          obtain ⟨F1, F2⟩ := FIN.out w2 _ h2 c2 eS.out
          clear h2 c2
          go_wp2_with fail
          exact ⟨⟨k + 1, by omega, rfl, F1.out, F2.out⟩, by simp only [intOf]; omega⟩
      · by_cases k3 : kd = 3 ∨ kd = 4
        · have eS : Hid (playS id s p = (s.roll p.at_).2.2) := by
            show _ = _
            unfold playS
            rw [← HKD.out, if_neg k012, if_pos k3]
          have RC := Lib.hid (stroll_c Wb _ R s p.at_ hat.out HS.out)
          have i0 : (kd == 0) = false := by simp; omega
          have i1 : (kd == 1) = false := by simp; omega
          have i2 : (kd == 2) = false := by simp; omega
          rcases k3 with rfl | rfl
          · go_wp2_with (first | refine wpList_load rfl 72 _ rfl _ _ rfl hld ?_)
            rw [← hWb]
            refine RC.out.mono ?_
            rintro e w2 ⟨rfl, h2, c2⟩
            obtain ⟨F1, F2⟩ := FIN.out w2 _ h2 c2 eS.out
            clear h2 c2
            go_wp2_with fail
            exact ⟨⟨k + 1, by omega, rfl, F1.out, F2.out⟩, by simp only [intOf]; omega⟩
          · go_wp2_with (first | refine wpList_load rfl 72 _ rfl _ _ rfl hld ?_)
            rw [← hWb]
            refine RC.out.mono ?_
            rintro e w2 ⟨rfl, h2, c2⟩
            obtain ⟨F1, F2⟩ := FIN.out w2 _ h2 c2 eS.out
            clear h2 c2
            go_wp2_with fail
            exact ⟨⟨k + 1, by omega, rfl, F1.out, F2.out⟩, by simp only [intOf]; omega⟩
        · have i0 : (kd == 0) = false := by simp; omega
          have i1 : (kd == 1) = false := by simp; omega
          have i2 : (kd == 2) = false := by simp; omega
          have i3 : (kd == 3) = false := by simp; omega
          have i4 : (kd == 4) = false := by simp; omega
          by_cases k5 : kd = 5
          · have eS : Hid (playS id s p = (s.purge p.lo p.hi).2) := by
              show _ = _
              unfold playS
              rw [← HKD.out, if_neg k012, if_neg k3, if_pos k5]
            have PC := Lib.hid (stpurge_c Wb _ R s p.lo p.hi HS.out)
            subst k5
            go_wp2_with (first | refine wpList_load rfl 72 _ rfl _ _ rfl hld ?_)
            rw [← hWb]
            refine PC.out.mono ?_
            rintro e w2 ⟨rfl, h2, c2⟩
            obtain ⟨F1, F2⟩ := FIN.out w2 _ h2 c2 eS.out
            clear h2 c2
            go_wp2_with fail
            exact ⟨⟨k + 1, by omega, rfl, F1.out, F2.out⟩, by simp only [intOf]; omega⟩
          · have eS : Hid (playS id s p = s) := by
              show _ = _
              unfold playS
              rw [← HKD.out, if_neg k012, if_neg k3, if_neg k5]
            have i5 : (kd == 5) = false := by simp; omega
            obtain ⟨F1, F2⟩ := FIN.out Wb _ HS.out.ext (Chg.refl _ _) eS.out
            go_wp2_with (first | refine wpList_load rfl 72 _ rfl _ _ rfl hld ?_)
            rw [← hWb]
            exact ⟨⟨k + 1, by omega, rfl, F1.out, F2.out⟩, by simp only [intOf]; omega⟩
    · obtain rfl : k = n := by omega
      have hS : Hid (StIs wr (fun q => w.heap.size ≤ q ∧ q < wr.heap.size) R (playL id L)) := by have h := hS.out; rw [HN.out, List.take_length] at h; exact h
      go_wp2_with fail
      go_ret
      exact ⟨R, rfl, hS.out, hC.out⟩
end Go.Proofs.Ytmnnahkaenikkaa

/- Law 19: expire.Series where the policy is none; lives. -/
namespace Go.Proofs.Ytmnnahkaenikkaa
open Go.RowKit Go.Cat
set_option maxRecDepth 100000 in
set_option maxHeartbeats 1000000 in
theorem ser_no_c (w : World) (R : Nat) (p : Pol) (now : Int) (sr : List UInt8) (pt : Option Addr) (hr : rightE p now = false) :
    Calls Try.prog 20 #[.pointer (some ⟨R, 0, none⟩), .string ⟨sr.toArray⟩, .pointer pt, .agg #[.int .i64 p.a, .int .i64 p.b, .int .i64 p.c], .int .i64 now] w fun e w' => e = .returned (.tuple #[.agg #[.int .i64 0, .int .i64 0, .int .i64 0], .int .i64 1]) ∧ Chg (fun _ => False) w w' := by
  obtain ⟨W, hW⟩ : ∃ W, W = (((((w.alloc (.cells #[.string ⟨sr.toArray⟩] 9)).alloc (.cells #[.pointer pt] 43)).alloc (.cells #[.int .i64 p.a, .int .i64 p.b, .int .i64 p.c] 41)).alloc (.cells #[.int .i64 now] 2)).alloc (.cells #[.int .i64 0, .int .i64 0, .int .i64 0] 54)).alloc (.cells #[.int .i64 0, .int .i64 0, .int .i64 0] 54) := ⟨_, rfl⟩
  have cW : Chg (fun _ => False) w W := by rw [hW]; exact ((((((Chg.refl _ w).alloc _).alloc _).alloc _).alloc _).alloc _).alloc _
  have hb2 : W.heap[w.heap.size + 1 + 1]? = some (.cells #[.int .i64 p.a, .int .i64 p.b, .int .i64 p.c] 41 (0, 0)) := by rw [hW]; exact ((((Chg.refl (fun _ => False) _).alloc _).alloc _).alloc _).heap (heap_at_new _ _ _ (by simp)) (fun h => h)
  have hb3 : W.heap[w.heap.size + 1 + 1 + 1]? = some (.cells #[.int .i64 now] 2 (0, 0)) := by rw [hW]; exact (((Chg.refl (fun _ => False) _).alloc _).alloc _).heap (heap_at_new _ _ _ (by simp)) (fun h => h)
  have hb4 : W.heap[w.heap.size + 1 + 1 + 1 + 1]? = some (.cells #[.int .i64 0, .int .i64 0, .int .i64 0] 54 (0, 0)) := by rw [hW]; exact ((Chg.refl (fun _ => False) _).alloc _).heap (heap_at_new _ _ _ (by simp)) (fun h => h)
  have hb5 : W.heap[w.heap.size + 1 + 1 + 1 + 1 + 1]? = some (.cells #[.int .i64 0, .int .i64 0, .int .i64 0] 54 (0, 0)) := by rw [hW]; exact heap_at_new _ _ _ (by simp)
  have RC := Lib.hid (show Calls Try.prog 39 #[.pointer (some ⟨R, 0, none⟩), .agg #[.int .i64 p.a, .int .i64 p.b, .int .i64 p.c], .int .i64 now] W fun e w' => e = .returned (.bool false) ∧ Chg (fun _ => False) W w' by rw [← hr]; exact exright_c W R p now)
  have q2a : W.cell? ⟨w.heap.size + 1 + 1, 0, none⟩ = some (.int .i64 p.a) := by rw [cell_of_heap hb2]; rfl
  have q2b : W.cell? ⟨w.heap.size + 1 + 1, 1, none⟩ = some (.int .i64 p.b) := by rw [cell_of_heap hb2]; rfl
  have q2c : W.cell? ⟨w.heap.size + 1 + 1, 2, none⟩ = some (.int .i64 p.c) := by rw [cell_of_heap hb2]; rfl
  have q3 : W.cell? ⟨w.heap.size + 1 + 1 + 1, 0, none⟩ = some (.int .i64 now) := by rw [cell_of_heap hb3]; rfl
  have HB4 := Lib.hid hb4
  have HB5 := Lib.hid hb5
  have HW := Lib.hid hW
  have CW := Lib.hid cW
  rw [hW] at q2a q2b q2c q3
  clear hr cW hb2 hb3 hb4 hb5 hW
  go_enter Try.func20, Try.ntmps20
  go_wp2_with fail
  rw [← HW.out]
  refine RC.out.mono ?_
  rintro e wr ⟨rfl, c1⟩
  have hO3 := c1.heap HB5.out (fun h => h)
  have q0 : wr.cell? ⟨w.heap.size + 1 + 1 + 1 + 1 + 1, 0, none⟩ = some (.int .i64 0) := by rw [cell_of_heap hO3]; rfl
  have q1 : wr.cell? ⟨w.heap.size + 1 + 1 + 1 + 1 + 1, 1, none⟩ = some (.int .i64 0) := by rw [cell_of_heap hO3]; rfl
  have q2 : wr.cell? ⟨w.heap.size + 1 + 1 + 1 + 1 + 1, 2, none⟩ = some (.int .i64 0) := by rw [cell_of_heap hO3]; rfl
  have hr3 := c1.heap HB4.out (fun h => h)
  have hst := run_storeAt_agg (P := Try.prog) wr 54 (w.heap.size + 1 + 1 + 1 + 1) 0 [.int .i64 0, .int .i64 0, .int .i64 0] (by kernel_rfl) (fun j hj => row_some hr3 j hj) (fun j _ => frozen_of_heap hr3 _) (by intro u hu; simp at hu; subst hu; rfl)
  have hr8 : (wr.setCells (w.heap.size + 1 + 1 + 1 + 1) 0 [.int .i64 0, .int .i64 0, .int .i64 0]).heap[w.heap.size + 1 + 1 + 1 + 1]? = some (.cells #[.int .i64 0, .int .i64 0, .int .i64 0] 54 (0, 0)) := Cat.heap_setCell_same (Cat.heap_setCell_same (Cat.heap_setCell_same hr3 0 _) 1 _) 2 _
  have c8 : Chg (fun k => k = w.heap.size + 1 + 1 + 1 + 1) wr (wr.setCells (w.heap.size + 1 + 1 + 1 + 1) 0 [.int .i64 0, .int .i64 0, .int .i64 0]) := Chg.setCells _ _ _ _
  obtain ⟨x8, hx8⟩ : ∃ x8, x8 = wr.setCells (w.heap.size + 1 + 1 + 1 + 1) 0 [.int .i64 0, .int .i64 0, .int .i64 0] := ⟨_, rfl⟩
  rw [← hx8] at hst hr8 c8
  have F2 : Hid (Chg (fun _ => False) w x8) := (CW.out.trans c1).new c8 (fun q hq => by omega)
  have HR8 := Lib.hid hr8
  clear hO3 hr3 hr8 c8 hx8 q2a q2b q2c q3 c1
  go_wp2_with (first | refine wpList_store rfl 54 _ _ rfl _ _ _ rfl rfl hst ?_)
  exact bodyPost_ret (v := .tuple #[.agg #[.int .i64 0, .int .i64 0, .int .i64 0], .int .i64 1]) (results_row_tmp2 (fn := Try.f20) (p := 10) (u := 11) (ty := 54) rfl _ _ (w.heap.size + 1 + 1 + 1 + 1) _ _ (0, 0) _ rfl HR8.out Try.underlying54 rfl (by kernel_rfl)) rfl ⟨rfl, F2.out⟩
end Go.Proofs.Ytmnnahkaenikkaa

/- Law 19: the values of lives. -/
namespace Go.Proofs.Ytmnnahkaenikkaa
open Go.RowKit Go.Cat
def lvL : List Pt := [⟨10, 0⟩, ⟨20, 0⟩]
theorem lv_put : (St.new.put lvL) = (2, 0, ⟨lvL, [], [], 0, 0⟩) := by
  have e : St.new.put lvL = ((sput [] lvL).1, (sput [] lvL).2.1, { St.new with raw := (sput [] lvL).2.2 }) := rfl
  rw [e]
  have h : sput [] lvL = (2, 0, lvL) := by kernel_rfl
  rw [h]
  rfl
def lvR : St := ((⟨lvL, [], [], 0, 0⟩ : St).roll 300).2.2
theorem lv_raw : lvR.raw = lvL := by kernel_rfl
theorem lv_m1 : lvR.m1 = 300 := by kernel_rfl
theorem lv_right : rightE ⟨100, 0, 0⟩ 120 = true := by kernel_rfl
theorem lv_n : lvR.exN ⟨100, 0, 0⟩ 120 (fun _ _ => false) 0 = 1 := by kernel_rfl
theorem lv_n1 : lvR.exN ⟨100, 0, 0⟩ 120 (fun _ _ => false) 1 = 0 := by kernel_rfl
theorem lv_n2 : lvR.exN ⟨100, 0, 0⟩ 120 (fun _ _ => false) 2 = 0 := by kernel_rfl
theorem lv_len : (lvR.exK ⟨100, 0, 0⟩ 120 (fun _ _ => false) 3).len 0 = 1 := by kernel_rfl
end Go.Proofs.Ytmnnahkaenikkaa

/- Law 19: lives. -/
namespace Go.Proofs.Ytmnnahkaenikkaa
open Go.RowKit Go.Cat
theorem eql_cnt (w : World) : (binOp .eql 54 (.agg #[.int .i64 1, .int .i64 0, .int .i64 0]) (.agg #[.int .i64 1, .int .i64 0, .int .i64 0])).run Try.prog w = .ok (.bool true) w := by
  kernel_rfl
/-- What a table's holds meet. -/
theorem meetsS_of {w : World} {Sb S : Nat → Prop} {b n : Nat} {D : HD} (ht : TabAt w Sb b D n) (hd : ∀ k, Sb k → ¬ S k) (sr : List UInt8) (mt : Int → Int → Bool) (hmt : ∀ x y, mt x y = true ↔ ∃ k h, Has D k h ∧ (h.of sr ∧ max h.lo x < min h.hi y)) : MeetsS w S (.pointer (some ⟨b, 0, none⟩)) sr mt := fun W x y c => by
  refine (meets_any W Sb b D n sr x y (ht.kept c hd)).mono ?_
  rintro e w' ⟨r, rfl, hr, c2⟩
  have : r = mt x y := by
    cases r with
    | true => exact ((hmt x y).2 (hr.1 rfl)).symm
    | false =>
      cases h : mt x y with
      | false => rfl
      | true => exact hr.2 ((hmt x y).1 h)
  exact ⟨by rw [this], c2⟩
theorem has_none {k : Lit} {h : Hld} : ¬ Has (.map [] : HD) k h := fun e => by
  have := e (.map [])
  simp [DataW.atKey, encH] at this
set_option maxRecDepth 100000 in
set_option maxHeartbeats 1000000 in
theorem lives19 (w : World) : Calls Try.prog 14 #[] w fun e w' => e = .returned (.bool true) ∧ Chg (fun _ => False) w w' := by
  go_enter Try.func14, Try.ntmps14
  go_wp2_with fail
  refine (newst_c w).mono ?_
  rintro e w1 ⟨R, rfl, hs1, c1⟩
  have HS1 := Lib.hid hs1
  have C1 := Lib.hid c1
  clear hs1 c1
  go_wp2_with fail
  obtain ⟨W, hW⟩ : ∃ W, W = w1.alloc (.cells #[.int .i64 10, .int .i64 0, .int .i64 20, .int .i64 0] 32) := ⟨_, rfl⟩
  have cW : Chg (fun _ => False) w1 W := by rw [hW]; exact (Chg.refl _ w1).alloc _
  have hP : Pts W (.slice (some ⟨w1.heap.size, 0, none⟩) 2 2) lvL := by
    refine ⟨rfl, .inr ⟨w1.heap.size, 0, 2, rfl, Nat.le_refl _, by simp only [maxLen]; show 2 ≤ _; omega, by rw [hW]; simp, fun j u hj => ?_⟩⟩
    rw [Nat.zero_add, hW, World.cell?_alloc_new]
    simpa [lvL, Pt.cells] using hj
  have PC := stput_c W _ R St.new _ lvL (HS1.out.same cW) hP (by simp [lvL])
  rw [lv_put] at PC
  have PC := Lib.hid PC
  have CW := Lib.hid cW
  rw [← hW]
  clear hW cW hP
  refine PC.out.mono ?_
  rintro e w2 ⟨rfl, hs2, c2⟩
  have HC2 : Hid (Chg (fun _ => False) w w2) := (C1.out.trans CW.out).new c2 (fun q hq => hq.1)
  have RC := Lib.hid (stroll_c w2 _ R _ 300 (by omega) hs2.old)
  have HC : Hid (Chg (fun _ => False) w w2 ∧ ∀ k, ext (fun q => w.heap.size ≤ q ∧ q < w1.heap.size) W w2 k → w.heap.size ≤ k) := ⟨HC2.out, fun k hk => by
    rcases hk with hk | hk
    · exact hk.1
    · have := C1.out.size; have := CW.out.size; omega⟩
  clear hs2 c2 PC HC2
  go_wp2_with fail
  refine RC.out.mono ?_
  rintro e w3 ⟨rfl, hs3, c3⟩
  have HC3 : Hid (Chg (fun _ => False) w w3) := HC.out.1.new c3 (fun q hq => HC.out.2 q hq.1)
  have hs3' := hs3.old
  have HC4 : Hid (∀ k, (ext (fun k => ext (fun q => w.heap.size ≤ q ∧ q < w1.heap.size) W w2 k ∧ k < w2.heap.size) w2 w3 k) → w.heap.size ≤ k) := fun k hk => by
    rcases hk with hk | hk
    · exact HC.out.2 k hk.1
    · have := HC.out.1.size; omega
  have HS3 := Lib.hid hs3'
  clear hs3 hs3' c3 RC
  go_wp2_with fail
  refine (new_tab w3).mono ?_
  rintro e w4 ⟨b, rfl, ht, c4⟩
  have SC := ser_c w4 _ R lvR ⟨100, 0, 0⟩ 120 [97] (some ⟨b, 0, none⟩) (fun _ _ => false) (HS3.out.same c4) lv_right (meetsS_of ht (fun k hk h => by have := h.1.2; omega) [97] _ (fun x y => ⟨fun h => (by cases h), fun ⟨k, h, h1, _⟩ => absurd h1 has_none⟩))
  rw [lv_n, lv_n1, lv_n2] at SC
  have SC := Lib.hid SC
  have C4 := Lib.hid c4
  clear ht c4
  go_wp2_with fail
  refine SC.out.mono ?_
  rintro e w5 ⟨rfl, hs5, c5⟩
  have HC5 : Hid (Chg (fun _ => False) w w5) := (HC3.out.trans C4.out).new c5 (fun q hq => HC4.out q hq.1)
  have LC := stlen_c (w5.alloc (.cells #[.int .i64 1, .int .i64 0, .int .i64 0] 54)) _ R _ 0 (.inl rfl) (hs5.same ((Chg.refl _ w5).alloc _))
  rw [lv_len] at LC
  have LC := Lib.hid LC
  have heq := eql_cnt
  clear hs5 c5 SC
  go_wp2_with fail
  refine LC.out.mono ?_
  rintro e w7 ⟨rfl, rfl⟩
  go_wp2_with fail
  go_ret
  exact ⟨rfl, HC5.out.alloc _⟩
end Go.Proofs.Ytmnnahkaenikkaa

/- Law 19: the one hold's table; reads of a stock by numbers. -/
namespace Go.Proofs.Ytmnnahkaenikkaa
open Go.RowKit Go.Cat
def hldH (lo hi : Int) : Hld := ⟨[104], [], lo, hi⟩
theorem isMap_nil : Maps.IsMap (.map [] : HD) := by
  first | exact Maps.isMap_nil | exact Maps.IsMap.nil | exact ⟨[], rfl⟩ | trivial | constructor
theorem hold_code (lo hi : Int) : addCode (.map []) (hldH lo hi) = if 0 ≤ lo ∧ lo < hi ∧ hi ≤ 1099511627777 then 0 else 3 := by
  have h1 : ¬ (nameRight (hldH lo hi).name = false ∨ ((hldH lo hi).series ≠ [] ∧ nameRight (hldH lo hi).series = false)) := by
    have e : nameRight [104] = true := by kernel_rfl
    intro h
    rcases h with h | h
    · have h : nameRight [104] = false := h
      rw [e] at h; cases h
    · exact h.1 rfl
  split
  · rename_i h2
    exact addCode_0 h1 h2 rfl (by show ¬ 16 ≤ 0; omega)
  · rename_i h2
    exact addCode_3 h1 h2
theorem hold_mt {lo hi : Int} (h : addCode (.map []) (hldH lo hi) = 0) (x y : Int) : holdM lo hi x y = true ↔ ∃ k h, Has (addTab (.map []) (hldH lo hi)) k h ∧ (h.of [97] ∧ max h.lo x < min h.hi y) := by
  rw [addTab_yes h]
  constructor
  · intro hm
    exact ⟨_, hldH lo hi, fun zd => Maps.atKey_put_same isMap_nil (by trivial) _ _, .inl rfl, of_decide_eq_true hm⟩
  · rintro ⟨k, h', hh, _, hm⟩
    by_cases e : k = .string [104]
    · subst e
      have h1 := hh (.map [])
      rw [show (hldH lo hi).name = [104] from rfl, Maps.atKey_put_same isMap_nil (by trivial)] at h1
      have := encH_inj h1
      subst this
      exact decide_eq_true hm
    · have h1 : Has (.map [] : HD) k h' := fun zd => by rw [← hh zd, show (hldH lo hi).name = [104] from rfl, Maps.atKey_put_other e]
      exact absurd h1 has_none
theorem TabAt.old {w : World} {S : Nat → Prop} {b n : Nat} {D : HD} (h : TabAt w S b D n) : TabAt w (fun k => S k ∧ k < w.heap.size) b D n := by
  obtain ⟨m, T, h1, h2, h3, h4⟩ := h
  exact ⟨m, T, h1, h2, ⟨h3, (Array.getElem?_eq_some_iff.1 h1).1⟩, ⟨h4, h2.lt⟩⟩
theorem agg1_c (w : World) (F : Nat → Prop) (R : Nat) (s : St) (a b : Int) (h : StIs w F R s) (Q : List Ag) (hQ : s.mid.filter (mtR 1 a b) = Q) : Calls Try.prog 19 #[.pointer (some ⟨R, 0, none⟩), .int .i64 1, .agg #[.int .i64 a, .int .i64 b]] w fun e w' => ∃ v', e = .returned v' ∧ OAgs w' v' Q ∧ (∀ k, v'.ownBlock = some k → w.heap.size ≤ k) ∧ Chg (fun _ => False) w w' := by
  rw [← hQ]
  exact aggs_c w F R s 1 (.inl rfl) a b h
theorem agg2_c (w : World) (F : Nat → Prop) (R : Nat) (s : St) (a b : Int) (h : StIs w F R s) (Q : List Ag) (hQ : s.long.filter (mtR 2 a b) = Q) : Calls Try.prog 19 #[.pointer (some ⟨R, 0, none⟩), .int .i64 2, .agg #[.int .i64 a, .int .i64 b]] w fun e w' => ∃ v', e = .returned v' ∧ OAgs w' v' Q ∧ (∀ k, v'.ownBlock = some k → w.heap.size ≤ k) ∧ Chg (fun _ => False) w w' := by
  rw [← hQ]
  exact aggs_c w F R s 2 (.inr rfl) a b h
theorem pts0_c (w : World) (F : Nat → Prop) (R : Nat) (s : St) (a b : Int) (h : StIs w F R s) (L : List Pt) (hL : inR s.raw a b = L) : Calls Try.prog 18 #[.pointer (some ⟨R, 0, none⟩), .agg #[.int .i64 a, .int .i64 b]] w fun e w' => ∃ v', e = .returned v' ∧ OPts w' v' L ∧ (∀ k, v'.ownBlock = some k → w.heap.size ≤ k) ∧ Chg (fun _ => False) w w' := by
  rw [← hL]
  exact points_c w F R s a b h
/-- A tick, whatever the policy. -/
theorem tick_c (w : World) (F : Nat → Prop) (R : Nat) (s : St) (p : Pol) (now : Int) (pt : Option Addr) (mt : Int → Int → Bool) (h : StIs w F R s) (hM : MeetsS w (fun k => F k ∧ k < w.heap.size) (.pointer pt) [97] mt) :
    Calls Try.prog 20 #[.pointer (some ⟨R, 0, none⟩), .string ⟨#[97]⟩, .pointer pt, .agg #[.int .i64 p.a, .int .i64 p.b, .int .i64 p.c], .int .i64 now] w fun e w' => (∃ v, e = .returned v) ∧ StIs w' (ext F w w') R (s.tick p mt now) ∧ Chg F w w' := by
  unfold St.tick
  cases hr : rightE p now with
  | true =>
    rw [if_pos rfl]
    exact (ser_c w F R s p now [97] pt mt h hr hM).mono fun e w' hh => ⟨⟨_, hh.1⟩, hh.2⟩
  | false =>
    rw [if_neg (by simp)]
    exact (ser_no_c w R p now [97] pt hr).mono fun e w' hh => ⟨⟨_, hh.1⟩, (h.same hh.2).ext, hh.2.mono (fun _ _ h => h.elim)⟩
/-- Ticks that came in; none may bear any address. -/
def TicksZ (w : World) (v : Value) (l : List Int) : Prop := Reads w 1 v l.length (l.map fun x => .int .i64 x) ∨ (l = [] ∧ ∃ a c, v = .slice a 0 c)
theorem TicksZ.form {w : World} {v : Value} {l : List Int} (h : TicksZ w v l) : ∃ a c, v = .slice a l.length c := by
  rcases h with h | ⟨rfl, a, c, rfl⟩
  · exact h.form
  · exact ⟨a, c, rfl⟩
theorem TicksZ.at {w : World} {a : Option Addr} {n c : Nat} {l : List Int} (h : TicksZ w (.slice a n c) l) (hn : n = l.length) {k : Nat} {x : Int} (hk : l[k]? = some x) : ∃ g o, a = some ⟨g, o, none⟩ ∧ w.cell? ⟨g, o + k, none⟩ = some (.int .i64 x) := by
  have hlt := (List.getElem?_eq_some_iff.1 hk).1
  rcases h with h | ⟨rfl, _⟩
  · rw [← hn] at h
    obtain ⟨g, o, h1, _, _, h2⟩ := reads_some h (by omega)
    exact ⟨g, o, h1, h2 k _ (by rw [List.getElem?_map, hk]; rfl)⟩
  · simp at hlt
end Go.Proofs.Ytmnnahkaenikkaa
