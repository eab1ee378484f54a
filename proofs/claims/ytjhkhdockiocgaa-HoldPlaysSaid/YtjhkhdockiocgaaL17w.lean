/- HoldPlays: the walk. -/
import Derived.Test.YtjhkhdockiocgaaL17r
import Derived.Test.YtjhkhdockiocgaaRecords
import Derived.Test.YtjhkhdockiocgaaNeq
import Derived.Test.YtjhkhdockiocgaaRoundAny
import Derived.Deep.CutRange
import Derived.Deep.CutBlock
namespace Go.Proofs.Ytjhkhdockiocgaa
open Go.RowKit Go.Cat Go.Maps Go.Shelf
attribute [local go_sem] Oper.semAt_some

theorem resP (tmps : Array Value) (w : World) (b : Nat) {v : Value} (ht : tmps.getD 8 undef = .pointer (some ⟨b, 0, none⟩)) (hc : w.cell? ⟨b, 0, none⟩ = some v) : (results Try.f12 tmps).run Try.prog w = .ok v w := by
  have h : Try.f12.results = #[.cell 8 4] := rfl
  have hl := run_loadAt_one (P := Try.prog) w 4 (by kernel_rfl) ⟨b, 0, none⟩ v hc
  have ht' : tmps[8]?.getD undef = .pointer (some ⟨b, 0, none⟩) := by simpa using ht
  simp only [results, h]
  simp [Instr.loadAt, Instr.sureAddr] at hl
  simp [ht', asAddr, hl]

set_option maxRecDepth 100000 in
set_option maxHeartbeats 32000000 in
theorem plays17 (lv : Value) (L : List Act17) (s : List UInt8) (at_ lo hi : Int) (w : World) (hL : Reads w 5 lv L.length (L.flatMap Act17.cells)) :
    Calls Try.prog 12 #[lv, .string ⟨s.toArray⟩, .int .i64 at_, .agg #[.int .i64 lo, .int .i64 hi]] w fun e w' => e = .returned (.bool true) ∧ Chg (fun _ => False) w w' := by
  obtain ⟨la, lc, rfl⟩ := hL.form
  have HL := Lib.hid hL
  obtain ⟨n, hn⟩ : ∃ n, n = L.length := ⟨_, rfl⟩
  have HN := Lib.hid hn
  rw [← hn] at HL ⊢
  clear hL hn
  refine (callsIn_wide (n := 6)).1 ?_
  have h1 : 1 ≤ 6 := by omega
  refine callsIn_of_wp_marks Try.func12 rfl trivial ?_ rfl
  simp only [Try.ntmps12, List.size_toArray, List.length_cons, List.length_nil, Nat.reduceAdd, Nat.reduceSub, Array.replicate_succ, Array.replicate_zero, List.push_toArray, List.append_toArray, List.nil_append, List.cons_append]
  obtain ⟨w0, hw0⟩ : ∃ w0, w0 = (w.alloc (.cells #[.int .i64 lo, .int .i64 hi] 24)).alloc (.cells #[.bool false] 4) := ⟨_, rfl⟩
  have c0 : Chg (fun _ => False) w w0 := by rw [hw0]; exact ((Chg.refl _ w).alloc _).alloc _
  have z0 : Hid (w0.heap.size = w.heap.size + 2) := by show _ = _; rw [hw0]; simp
  have HA0 : Hid (w0.heap[w.heap.size]? = some (.cells #[.int .i64 lo, .int .i64 hi] 24 (0, 0))) := by rw [hw0]; exact ((Chg.refl (fun _ => False) _).alloc _).heap (heap_at_new _ _ _ rfl) (fun h => h)
  have HR0 : Hid (w0.heap[w.heap.size + 1]? = some (.cells #[.bool false] 4 (0, 0))) := by rw [hw0]; exact heap_at_new _ _ _ (by simp)
  have HW0 := Lib.hid hw0
  have HC0 := Lib.hid c0
  clear hw0 c0
  gi_wp2
  refine ⟨trivial, (callsIn_wide.2 (lives17 _)).mono ?_⟩
  rintro e w1 ⟨rfl, c1⟩
  rw [← HW0.out] at c1
  have HA1 := Lib.hid (c1.heap HA0.out (fun h => h))
  have HR1 := Lib.hid (c1.heap HR0.out (fun h => h))
  have HC1 : Hid (Chg (fun _ => False) w w1) := HC0.out.trans c1
  have z1 : Hid (w.heap.size + 2 ≤ w1.heap.size) := by have := z0.out; have := c1.size; show _ ≤ _; omega
  clear c1 HA0 HR0 HC0 HW0 z0
  by_cases hbad : 60 < n ∨ 60 < s.length
  · by_cases b1 : 60 < n
    · have i1 : (60 : Int) < n := by omega
      gi_wp2
      refine ⟨trivial, (callsIn_wide.2 (lives17 _)).mono ?_⟩
      rintro e w2 ⟨rfl, c2⟩
      have HR2 := Lib.hid (c2.heap HR1.out (fun h => h))
      have q1 : w2.cell? ⟨w.heap.size + 1, 0, none⟩ = some (.bool false) := by rw [cell_of_heap HR2.out]; rfl
      have q2 : w2.frozen? ⟨w.heap.size + 1, 0, none⟩ = false := frozen_of_heap HR2.out _
      gi_wp2
      have c2s : Chg (fun q => q = w.heap.size + 1) w2 (w2.setCell ⟨w.heap.size + 1, 0, none⟩ (.bool true)) := (Chg.refl (fun q => q = w.heap.size + 1) w2).setCell (p := ⟨w.heap.size + 1, 0, none⟩) (fun _ => rfl) _
      refine ⟨.bool true, resP _ _ (w.heap.size + 1) rfl (by rw [cell_of_heap (Cat.heap_setCell_same HR2.out 0 _)]; rfl), rfl, (HC1.out.trans c2).new c2s (fun q h => by omega)⟩
    · have i1 : ¬ (60 : Int) < n := by omega
      have i2 : (60 : Int) < s.length := by omega
      gi_wp2
      refine ⟨trivial, (callsIn_wide.2 (lives17 _)).mono ?_⟩
      rintro e w2 ⟨rfl, c2⟩
      have HR2 := Lib.hid (c2.heap HR1.out (fun h => h))
      have q1 : w2.cell? ⟨w.heap.size + 1, 0, none⟩ = some (.bool false) := by rw [cell_of_heap HR2.out]; rfl
      have q2 : w2.frozen? ⟨w.heap.size + 1, 0, none⟩ = false := frozen_of_heap HR2.out _
      gi_wp2
      have c2s : Chg (fun q => q = w.heap.size + 1) w2 (w2.setCell ⟨w.heap.size + 1, 0, none⟩ (.bool true)) := (Chg.refl (fun q => q = w.heap.size + 1) w2).setCell (p := ⟨w.heap.size + 1, 0, none⟩) (fun _ => rfl) _
      refine ⟨.bool true, resP _ _ (w.heap.size + 1) rfl (by rw [cell_of_heap (Cat.heap_setCell_same HR2.out 0 _)]; rfl), rfl, (HC1.out.trans c2).new c2s (fun q h => by omega)⟩
  have hn60 : n ≤ 60 := by omega
  have hs60 : s.length ≤ 60 := by omega
  have i1 : ¬ (60 : Int) < n := by omega
  have i2 : ¬ (60 : Int) < s.length := by omega
  clear hbad
  gi_wp2
  refine ⟨trivial, (callsIn_wide.2 (new_tab _)).mono ?_⟩
  rintro e w2 ⟨b, rfl, t2, c2⟩
  have HA2 := Lib.hid (c2.heap HA1.out (fun h => h))
  have HR2 := Lib.hid (c2.heap HR1.out (fun h => h))
  have HT2 := Lib.hid t2
  have HC2 := Lib.hid c2
  clear c2 t2
  obtain ⟨w3, hw3⟩ : ∃ w3, w3 = w2.alloc (.cells #[.slice none 0 0] 89) := ⟨_, rfl⟩
  have ca : Chg (fun _ => False) w2 w3 := by rw [hw3]; exact (Chg.refl _ w2).alloc _
  have hT3 := HT2.out.kept ca (fun _ _ h => h)
  obtain ⟨mb, hmb⟩ : ∃ mb, TabAt w3 (fun k => k = b ∨ k = mb) b (.map []) 0 ∧ w1.heap.size ≤ mb ∧ mb < w2.heap.size ∧ w1.heap.size ≤ b ∧ b < w2.heap.size ∧ b ≠ mb := by
    obtain ⟨m, T, g1, g2, g3, g4⟩ := HT2.out
    exact ⟨m, ⟨m, T, ca.heap g1 (fun h => h), owns_kept g2 ca (fun h => h), .inl rfl, .inr rfl⟩, g4, g2.lt, g3, (Array.getElem?_eq_some_iff.1 g1).1, tab_ne g1 g2⟩
  obtain ⟨q10, hq10⟩ : ∃ q, q = w2.heap.size := ⟨_, rfl⟩
  have HW3 := Lib.hid hw3
  have HM0 : Hid (HM w w3 w.heap.size (w.heap.size + 1) q10 b mb lo hi (.map []) 0 [] (.slice none 0 0) []) := by
    have hz := HC2.out.size
    have zz := z1.out
    refine ⟨(HC1.out.trans HC2.out).trans ca, ca.heap HA2.out (fun h => h), ca.heap HR2.out (fun h => h), by rw [hq10, hw3]; exact heap_at_new _ _ _ rfl, Owns.nil _ _, hmb.1, ?_, ?_, fun q h => by simp [Value.ownBlock] at h, by simp, by simp, by simp⟩
    · intro q hq
      simp at hq; omega
    · simp; omega
  have hq10' : w2.heap.size = q10 := hq10.symm
  clear ca hT3 hmb hq10 hw3 HT2 HA2 HR2 HC2 HA1 HR1
  gi_wp2
  refine wpIn_wide.2 ?_
  rw [← HW3.out]
  refine wp_loop (fun a' wo => ∃ (DS : List Nat) (k : Nat) (D : HD) (nn : Nat) (M : List Hld) (mv : Value) (u4 u5 u6 u11 u12 u13 u14 u15 u16 u17 u18 u19 u20 u21 u22 u23 u24 u25 u26 u27 u28 u29 u30 u31 u32 u33 u34 u35 u36 u37 u38 u39 u40 u41 u42 u43 u47 u48 u49 u50 u51 u52 u53 u54 u55 u56 u57 u58 u59 u60 u61 u62 u63 u64 u65 u66 u67 u68 u69 u70 u71 u72 u73 u74 u75 u76 u77 u78 u79 u80 u81 u82 u83 u84 u85 u86 u87 u88 u89 u90 u91 u92 u93 u94 u95 u96 u97 u98 u99 u100 u101 u102 u103 u104 u105 u106 u107 u108 u109 u110 u111 u112 u113 u114 u115 u116 u117 u118 u119 u120 u121 u122 u123 u124 u125 u126 u127 u128 u129 u130 u131 u132 u133 u134 u135 u136 u137 u138 u139 u140 u141 u142 u143 u144 u145 u146 u147 u148 u149 u150 u151 u152 u153 u154 u155 u156 u157 u158 u159 u160 u161 u162 u163 u164 u165 u166 u167 u168 u169 u170 u171 u172 u173 u174 u175 u176 u177 u178 u179 u180 u181 u182 u183 u184 u185 u186 u187 u188 u189 u190 u191 u192 u193 u194 u195 u196 u197 u198 u199 u200 u201 u202 u203 u204 u205 u206 u207 u208 u209 u210 u211 u212 u213 u214 u215 u216 u217 u218 u219 u220 u221 u222 u223 u224 u225 u226 u227 u228 u229 u230 u231 u232 u233 u234 u235 u236 u237 u238 u239 u240 u241 u242 u243 u244 u245 u246 u247 u248 u249 u250 u251 u252 u253 u254 u255 : Value), k ≤ n ∧ nn ≤ k ∧ Hid (HM w wo w.heap.size (w.heap.size + 1) q10 b mb lo hi D nn M mv DS) ∧ Hid (TM D M ∧ M.length ≤ 16) ∧ a' = ⟨#[Value.slice la n lc, Value.string ⟨s.toArray⟩, Value.int .i64 at_, Value.agg #[Value.int .i64 lo, Value.int .i64 hi], u4, u5, u6, Value.pointer (some ⟨w.heap.size, 0, none⟩), Value.pointer (some ⟨w.heap.size + 1, 0, none⟩), Value.pointer (some ⟨b, 0, none⟩), Value.pointer (some ⟨q10, 0, none⟩), u11, u12, u13, u14, u15, u16, u17, u18, u19, u20, u21, u22, u23, u24, u25, u26, u27, u28, u29, u30, u31, u32, u33, u34, u35, u36, u37, u38, u39, u40, u41, u42, u43, Value.slice la n lc, Value.int .i64 n, Value.int .i64 (k : Nat), u47, u48, u49, u50, u51, u52, u53, u54, u55, u56, u57, u58, u59, u60, u61, u62, u63, u64, u65, u66, u67, u68, u69, u70, u71, u72, u73, u74, u75, u76, u77, u78, u79, u80, u81, u82, u83, u84, u85, u86, u87, u88, u89, u90, u91, u92, u93, u94, u95, u96, u97, u98, u99, u100, u101, u102, u103, u104, u105, u106, u107, u108, u109, u110, u111, u112, u113, u114, u115, u116, u117, u118, u119, u120, u121, u122, u123, u124, u125, u126, u127, u128, u129, u130, u131, u132, u133, u134, u135, u136, u137, u138, u139, u140, u141, u142, u143, u144, u145, u146, u147, u148, u149, u150, u151, u152, u153, u154, u155, u156, u157, u158, u159, u160, u161, u162, u163, u164, u165, u166, u167, u168, u169, u170, u171, u172, u173, u174, u175, u176, u177, u178, u179, u180, u181, u182, u183, u184, u185, u186, u187, u188, u189, u190, u191, u192, u193, u194, u195, u196, u197, u198, u199, u200, u201, u202, u203, u204, u205, u206, u207, u208, u209, u210, u211, u212, u213, u214, u215, u216, u217, u218, u219, u220, u221, u222, u223, u224, u225, u226, u227, u228, u229, u230, u231, u232, u233, u234, u235, u236, u237, u238, u239, u240, u241, u242, u243, u244, u245, u246, u247, u248, u249, u250, u251, u252, u253, u254, u255], DS.map markD⟩) (fun a' _ => n - (intOf (a'.tmps.getD 46 undef)).toNat) ?start ?round
  case start => exact ⟨[], 0, .map [], 0, [], .slice none 0 0, _, _, _, _, _, _, _, _, _, _, _, _, _, _, _, _, _, _, _, _, _, _, _, _, _, _, _, _, _, _, _, _, _, _, _, _, _, _, _, _, _, _, _, _, _, _, _, _, _, _, _, _, _, _, _, _, _, _, _, _, _, _, _, _, _, _, _, _, _, _, _, _, _, _, _, _, _, _, _, _, _, _, _, _, _, _, _, _, _, _, _, _, _, _, _, _, _, _, _, _, _, _, _, _, _, _, _, _, _, _, _, _, _, _, _, _, _, _, _, _, _, _, _, _, _, _, _, _, _, _, _, _, _, _, _, _, _, _, _, _, _, _, _, _, _, _, _, _, _, _, _, _, _, _, _, _, _, _, _, _, _, _, _, _, _, _, _, _, _, _, _, _, _, _, _, _, _, _, _, _, _, _, _, _, _, _, _, _, _, _, _, _, _, _, _, _, _, _, _, _, _, _, _, _, _, _, _, _, _, _, _, _, _, _, _, _, _, _, _, _, _, _, _, _, _, _, _, _, _, _, _, _, _, _, _, _, _, _, _, _, _, _, _, _, _, by omega, by omega, HM0.out, ⟨TM.nil, by simp⟩, rfl⟩
  case round =>
    intro a' wo hinv
    obtain ⟨DS, hinv⟩ := hinv
    obtain ⟨k, hinv⟩ := hinv
    obtain ⟨D, hinv⟩ := hinv
    obtain ⟨nn, hinv⟩ := hinv
    obtain ⟨M, hinv⟩ := hinv
    obtain ⟨mv, hinv⟩ := hinv
    obtain ⟨u4, hinv⟩ := hinv
    obtain ⟨u5, hinv⟩ := hinv
    obtain ⟨u6, hinv⟩ := hinv
    obtain ⟨u11, hinv⟩ := hinv
    obtain ⟨u12, hinv⟩ := hinv
    obtain ⟨u13, hinv⟩ := hinv
    obtain ⟨u14, hinv⟩ := hinv
    obtain ⟨u15, hinv⟩ := hinv
    obtain ⟨u16, hinv⟩ := hinv
    obtain ⟨u17, hinv⟩ := hinv
    obtain ⟨u18, hinv⟩ := hinv
    obtain ⟨u19, hinv⟩ := hinv
    obtain ⟨u20, hinv⟩ := hinv
    obtain ⟨u21, hinv⟩ := hinv
    obtain ⟨u22, hinv⟩ := hinv
    obtain ⟨u23, hinv⟩ := hinv
    obtain ⟨u24, hinv⟩ := hinv
    obtain ⟨u25, hinv⟩ := hinv
    obtain ⟨u26, hinv⟩ := hinv
    obtain ⟨u27, hinv⟩ := hinv
    obtain ⟨u28, hinv⟩ := hinv
    obtain ⟨u29, hinv⟩ := hinv
    obtain ⟨u30, hinv⟩ := hinv
    obtain ⟨u31, hinv⟩ := hinv
    obtain ⟨u32, hinv⟩ := hinv
    obtain ⟨u33, hinv⟩ := hinv
    obtain ⟨u34, hinv⟩ := hinv
    obtain ⟨u35, hinv⟩ := hinv
    obtain ⟨u36, hinv⟩ := hinv
    obtain ⟨u37, hinv⟩ := hinv
    obtain ⟨u38, hinv⟩ := hinv
    obtain ⟨u39, hinv⟩ := hinv
    obtain ⟨u40, hinv⟩ := hinv
    obtain ⟨u41, hinv⟩ := hinv
    obtain ⟨u42, hinv⟩ := hinv
    obtain ⟨u43, hinv⟩ := hinv
    obtain ⟨u47, hinv⟩ := hinv
    obtain ⟨u48, hinv⟩ := hinv
    obtain ⟨u49, hinv⟩ := hinv
    obtain ⟨u50, hinv⟩ := hinv
    obtain ⟨u51, hinv⟩ := hinv
    obtain ⟨u52, hinv⟩ := hinv
    obtain ⟨u53, hinv⟩ := hinv
    obtain ⟨u54, hinv⟩ := hinv
    obtain ⟨u55, hinv⟩ := hinv
    obtain ⟨u56, hinv⟩ := hinv
    obtain ⟨u57, hinv⟩ := hinv
    obtain ⟨u58, hinv⟩ := hinv
    obtain ⟨u59, hinv⟩ := hinv
    obtain ⟨u60, hinv⟩ := hinv
    obtain ⟨u61, hinv⟩ := hinv
    obtain ⟨u62, hinv⟩ := hinv
    obtain ⟨u63, hinv⟩ := hinv
    obtain ⟨u64, hinv⟩ := hinv
    obtain ⟨u65, hinv⟩ := hinv
    obtain ⟨u66, hinv⟩ := hinv
    obtain ⟨u67, hinv⟩ := hinv
    obtain ⟨u68, hinv⟩ := hinv
    obtain ⟨u69, hinv⟩ := hinv
    obtain ⟨u70, hinv⟩ := hinv
    obtain ⟨u71, hinv⟩ := hinv
    obtain ⟨u72, hinv⟩ := hinv
    obtain ⟨u73, hinv⟩ := hinv
    obtain ⟨u74, hinv⟩ := hinv
    obtain ⟨u75, hinv⟩ := hinv
    obtain ⟨u76, hinv⟩ := hinv
    obtain ⟨u77, hinv⟩ := hinv
    obtain ⟨u78, hinv⟩ := hinv
    obtain ⟨u79, hinv⟩ := hinv
    obtain ⟨u80, hinv⟩ := hinv
    obtain ⟨u81, hinv⟩ := hinv
    obtain ⟨u82, hinv⟩ := hinv
    obtain ⟨u83, hinv⟩ := hinv
    obtain ⟨u84, hinv⟩ := hinv
    obtain ⟨u85, hinv⟩ := hinv
    obtain ⟨u86, hinv⟩ := hinv
    obtain ⟨u87, hinv⟩ := hinv
    obtain ⟨u88, hinv⟩ := hinv
    obtain ⟨u89, hinv⟩ := hinv
    obtain ⟨u90, hinv⟩ := hinv
    obtain ⟨u91, hinv⟩ := hinv
    obtain ⟨u92, hinv⟩ := hinv
    obtain ⟨u93, hinv⟩ := hinv
    obtain ⟨u94, hinv⟩ := hinv
    obtain ⟨u95, hinv⟩ := hinv
    obtain ⟨u96, hinv⟩ := hinv
    obtain ⟨u97, hinv⟩ := hinv
    obtain ⟨u98, hinv⟩ := hinv
    obtain ⟨u99, hinv⟩ := hinv
    obtain ⟨u100, hinv⟩ := hinv
    obtain ⟨u101, hinv⟩ := hinv
    obtain ⟨u102, hinv⟩ := hinv
    obtain ⟨u103, hinv⟩ := hinv
    obtain ⟨u104, hinv⟩ := hinv
    obtain ⟨u105, hinv⟩ := hinv
    obtain ⟨u106, hinv⟩ := hinv
    obtain ⟨u107, hinv⟩ := hinv
    obtain ⟨u108, hinv⟩ := hinv
    obtain ⟨u109, hinv⟩ := hinv
    obtain ⟨u110, hinv⟩ := hinv
    obtain ⟨u111, hinv⟩ := hinv
    obtain ⟨u112, hinv⟩ := hinv
    obtain ⟨u113, hinv⟩ := hinv
    obtain ⟨u114, hinv⟩ := hinv
    obtain ⟨u115, hinv⟩ := hinv
    obtain ⟨u116, hinv⟩ := hinv
    obtain ⟨u117, hinv⟩ := hinv
    obtain ⟨u118, hinv⟩ := hinv
    obtain ⟨u119, hinv⟩ := hinv
    obtain ⟨u120, hinv⟩ := hinv
    obtain ⟨u121, hinv⟩ := hinv
    obtain ⟨u122, hinv⟩ := hinv
    obtain ⟨u123, hinv⟩ := hinv
    obtain ⟨u124, hinv⟩ := hinv
    obtain ⟨u125, hinv⟩ := hinv
    obtain ⟨u126, hinv⟩ := hinv
    obtain ⟨u127, hinv⟩ := hinv
    obtain ⟨u128, hinv⟩ := hinv
    obtain ⟨u129, hinv⟩ := hinv
    obtain ⟨u130, hinv⟩ := hinv
    obtain ⟨u131, hinv⟩ := hinv
    obtain ⟨u132, hinv⟩ := hinv
    obtain ⟨u133, hinv⟩ := hinv
    obtain ⟨u134, hinv⟩ := hinv
    obtain ⟨u135, hinv⟩ := hinv
    obtain ⟨u136, hinv⟩ := hinv
    obtain ⟨u137, hinv⟩ := hinv
    obtain ⟨u138, hinv⟩ := hinv
    obtain ⟨u139, hinv⟩ := hinv
    obtain ⟨u140, hinv⟩ := hinv
    obtain ⟨u141, hinv⟩ := hinv
    obtain ⟨u142, hinv⟩ := hinv
    obtain ⟨u143, hinv⟩ := hinv
    obtain ⟨u144, hinv⟩ := hinv
    obtain ⟨u145, hinv⟩ := hinv
    obtain ⟨u146, hinv⟩ := hinv
    obtain ⟨u147, hinv⟩ := hinv
    obtain ⟨u148, hinv⟩ := hinv
    obtain ⟨u149, hinv⟩ := hinv
    obtain ⟨u150, hinv⟩ := hinv
    obtain ⟨u151, hinv⟩ := hinv
    obtain ⟨u152, hinv⟩ := hinv
    obtain ⟨u153, hinv⟩ := hinv
    obtain ⟨u154, hinv⟩ := hinv
    obtain ⟨u155, hinv⟩ := hinv
    obtain ⟨u156, hinv⟩ := hinv
    obtain ⟨u157, hinv⟩ := hinv
    obtain ⟨u158, hinv⟩ := hinv
    obtain ⟨u159, hinv⟩ := hinv
    obtain ⟨u160, hinv⟩ := hinv
    obtain ⟨u161, hinv⟩ := hinv
    obtain ⟨u162, hinv⟩ := hinv
    obtain ⟨u163, hinv⟩ := hinv
    obtain ⟨u164, hinv⟩ := hinv
    obtain ⟨u165, hinv⟩ := hinv
    obtain ⟨u166, hinv⟩ := hinv
    obtain ⟨u167, hinv⟩ := hinv
    obtain ⟨u168, hinv⟩ := hinv
    obtain ⟨u169, hinv⟩ := hinv
    obtain ⟨u170, hinv⟩ := hinv
    obtain ⟨u171, hinv⟩ := hinv
    obtain ⟨u172, hinv⟩ := hinv
    obtain ⟨u173, hinv⟩ := hinv
    obtain ⟨u174, hinv⟩ := hinv
    obtain ⟨u175, hinv⟩ := hinv
    obtain ⟨u176, hinv⟩ := hinv
    obtain ⟨u177, hinv⟩ := hinv
    obtain ⟨u178, hinv⟩ := hinv
    obtain ⟨u179, hinv⟩ := hinv
    obtain ⟨u180, hinv⟩ := hinv
    obtain ⟨u181, hinv⟩ := hinv
    obtain ⟨u182, hinv⟩ := hinv
    obtain ⟨u183, hinv⟩ := hinv
    obtain ⟨u184, hinv⟩ := hinv
    obtain ⟨u185, hinv⟩ := hinv
    obtain ⟨u186, hinv⟩ := hinv
    obtain ⟨u187, hinv⟩ := hinv
    obtain ⟨u188, hinv⟩ := hinv
    obtain ⟨u189, hinv⟩ := hinv
    obtain ⟨u190, hinv⟩ := hinv
    obtain ⟨u191, hinv⟩ := hinv
    obtain ⟨u192, hinv⟩ := hinv
    obtain ⟨u193, hinv⟩ := hinv
    obtain ⟨u194, hinv⟩ := hinv
    obtain ⟨u195, hinv⟩ := hinv
    obtain ⟨u196, hinv⟩ := hinv
    obtain ⟨u197, hinv⟩ := hinv
    obtain ⟨u198, hinv⟩ := hinv
    obtain ⟨u199, hinv⟩ := hinv
    obtain ⟨u200, hinv⟩ := hinv
    obtain ⟨u201, hinv⟩ := hinv
    obtain ⟨u202, hinv⟩ := hinv
    obtain ⟨u203, hinv⟩ := hinv
    obtain ⟨u204, hinv⟩ := hinv
    obtain ⟨u205, hinv⟩ := hinv
    obtain ⟨u206, hinv⟩ := hinv
    obtain ⟨u207, hinv⟩ := hinv
    obtain ⟨u208, hinv⟩ := hinv
    obtain ⟨u209, hinv⟩ := hinv
    obtain ⟨u210, hinv⟩ := hinv
    obtain ⟨u211, hinv⟩ := hinv
    obtain ⟨u212, hinv⟩ := hinv
    obtain ⟨u213, hinv⟩ := hinv
    obtain ⟨u214, hinv⟩ := hinv
    obtain ⟨u215, hinv⟩ := hinv
    obtain ⟨u216, hinv⟩ := hinv
    obtain ⟨u217, hinv⟩ := hinv
    obtain ⟨u218, hinv⟩ := hinv
    obtain ⟨u219, hinv⟩ := hinv
    obtain ⟨u220, hinv⟩ := hinv
    obtain ⟨u221, hinv⟩ := hinv
    obtain ⟨u222, hinv⟩ := hinv
    obtain ⟨u223, hinv⟩ := hinv
    obtain ⟨u224, hinv⟩ := hinv
    obtain ⟨u225, hinv⟩ := hinv
    obtain ⟨u226, hinv⟩ := hinv
    obtain ⟨u227, hinv⟩ := hinv
    obtain ⟨u228, hinv⟩ := hinv
    obtain ⟨u229, hinv⟩ := hinv
    obtain ⟨u230, hinv⟩ := hinv
    obtain ⟨u231, hinv⟩ := hinv
    obtain ⟨u232, hinv⟩ := hinv
    obtain ⟨u233, hinv⟩ := hinv
    obtain ⟨u234, hinv⟩ := hinv
    obtain ⟨u235, hinv⟩ := hinv
    obtain ⟨u236, hinv⟩ := hinv
    obtain ⟨u237, hinv⟩ := hinv
    obtain ⟨u238, hinv⟩ := hinv
    obtain ⟨u239, hinv⟩ := hinv
    obtain ⟨u240, hinv⟩ := hinv
    obtain ⟨u241, hinv⟩ := hinv
    obtain ⟨u242, hinv⟩ := hinv
    obtain ⟨u243, hinv⟩ := hinv
    obtain ⟨u244, hinv⟩ := hinv
    obtain ⟨u245, hinv⟩ := hinv
    obtain ⟨u246, hinv⟩ := hinv
    obtain ⟨u247, hinv⟩ := hinv
    obtain ⟨u248, hinv⟩ := hinv
    obtain ⟨u249, hinv⟩ := hinv
    obtain ⟨u250, hinv⟩ := hinv
    obtain ⟨u251, hinv⟩ := hinv
    obtain ⟨u252, hinv⟩ := hinv
    obtain ⟨u253, hinv⟩ := hinv
    obtain ⟨u254, hinv⟩ := hinv
    obtain ⟨u255, hinv⟩ := hinv
    obtain ⟨hk, hnn, hHM, hTM, ha⟩ := hinv
    subst ha
    have hchg := hHM.out.chg
    have CH := Lib.hid hchg
    clear hchg
    by_cases hlt : k < n
    · obtain ⟨a, ha⟩ : ∃ a, L[k]? = some a := ⟨_, List.getElem?_eq_getElem (by rw [← HN.out]; exact hlt)⟩
      obtain ⟨g, o, hla, x0, x1, x2, x3, x4⟩ := act_cells HL.out HN.out k a ha
      subst hla
      have x0 := CH.out.cell x0 (fun h => h)
      have x1 := CH.out.cell x1 (fun h => h)
      have x2 := CH.out.cell x2 (fun h => h)
      have x3 := CH.out.cell x3 (fun h => h)
      have x4 := CH.out.cell x4 (fun h => h)
      clear ha
      obtain ⟨kind, nm, sr, lo1, hi1⟩ := a
      simp only at x0 x1 x2 x3 x4
      obtain ⟨wa, hwa⟩ : ∃ wa, wa = (wo.alloc (.cells #[.int .i64 kind, .string ⟨nm.toArray⟩, .string ⟨sr.toArray⟩, .int .i64 lo1, .int .i64 hi1] 91)).alloc (.cells #[.string ⟨nm.toArray⟩, .string ⟨sr.toArray⟩, .int .i64 lo1, .int .i64 hi1] 28) := ⟨_, rfl⟩
      have HWA := Lib.hid hwa
      have cwa : Chg (fun _ => False) wo wa := by rw [hwa]; exact ((Chg.refl _ wo).alloc _).alloc _
      have CWA := Lib.hid cwa
      have HB12 : Hid (wa.heap[wo.heap.size]? = some (.cells #[.int .i64 kind, .string ⟨nm.toArray⟩, .string ⟨sr.toArray⟩, .int .i64 lo1, .int .i64 hi1] 91 (0, 0))) := by rw [hwa]; exact ((Chg.refl (fun _ => False) _).alloc _).heap (heap_at_new _ _ _ rfl) (fun h => h)
      have HB13 : Hid (wa.heap[wo.heap.size + 1]? = some (.cells #[.string ⟨nm.toArray⟩, .string ⟨sr.toArray⟩, .int .i64 lo1, .int .i64 hi1] 28 (0, 0))) := by rw [hwa]; exact heap_at_new _ _ _ (by simp)
      have HMA := Lib.hid (hHM.out.same cwa)
      have q8c : ((wo.alloc (.cells #[.int .i64 kind, .string ⟨nm.toArray⟩, .string ⟨sr.toArray⟩, .int .i64 lo1, .int .i64 hi1] 91)).alloc (.cells #[.string ⟨nm.toArray⟩, .string ⟨sr.toArray⟩, .int .i64 lo1, .int .i64 hi1] 28)).cell? ⟨w.heap.size + 1, 0, none⟩ = some (.bool false) := by rw [← hwa, cell_of_heap HMA.out.c8]; rfl
      have q8f : ((wo.alloc (.cells #[.int .i64 kind, .string ⟨nm.toArray⟩, .string ⟨sr.toArray⟩, .int .i64 lo1, .int .i64 hi1] 91)).alloc (.cells #[.string ⟨nm.toArray⟩, .string ⟨sr.toArray⟩, .int .i64 lo1, .int .i64 hi1] 28)).frozen? ⟨w.heap.size + 1, 0, none⟩ = false := by rw [← hwa]; exact frozen_of_heap HMA.out.c8 0
      have q10c : ((wo.alloc (.cells #[.int .i64 kind, .string ⟨nm.toArray⟩, .string ⟨sr.toArray⟩, .int .i64 lo1, .int .i64 hi1] 91)).alloc (.cells #[.string ⟨nm.toArray⟩, .string ⟨sr.toArray⟩, .int .i64 lo1, .int .i64 hi1] 28)).cell? ⟨q10, 0, none⟩ = some mv := by rw [← hwa, cell_of_heap HMA.out.c10]; rfl
      clear hwa cwa
      by_cases hbad : 60 < nm.length ∨ 60 < sr.length
      · by_cases b1 : 60 < nm.length
        · have i1' : (60 : Int) < nm.length := by omega
          go_wp2_with fail
          rw [← HWA.out]
          exact HMA.out.leave ((Chg.refl (fun k => k = w.heap.size + 1) wa).setCell (p := ⟨w.heap.size + 1, 0, none⟩) (fun _ => rfl) _) (Cat.heap_setCell_same HMA.out.c8 0 _) (fun W hW => resP _ _ (w.heap.size + 1) rfl hW)
        · have i1' : ¬ (60 : Int) < nm.length := by omega
          have i2' : (60 : Int) < sr.length := by omega
          go_wp2_with fail
          rw [← HWA.out]
          exact HMA.out.leave ((Chg.refl (fun k => k = w.heap.size + 1) wa).setCell (p := ⟨w.heap.size + 1, 0, none⟩) (fun _ => rfl) _) (Cat.heap_setCell_same HMA.out.c8 0 _) (fun W hW => resP _ _ (w.heap.size + 1) rfl hW)
      have l1 : nm.length ≤ 60 := by omega
      have l2 : sr.length ≤ 60 := by omega
      have j1 : ¬ (60 : Int) < nm.length := by omega
      have j2 : ¬ (60 : Int) < sr.length := by omega
      clear hbad
      obtain ⟨ma, mc, rfl⟩ := hHM.out.own.form
      obtain ⟨ml, hml⟩ : ∃ m, m = M.length := ⟨_, rfl⟩
      have HML := Lib.hid hml
      rw [← hml] at q10c HMA
      have hml16 : ml ≤ 16 := by have := hTM.out.2; omega
      have HMO : Hid (∀ k, (Value.slice ma ml mc).ownBlock = some k → k < wo.heap.size) := fun k hk => hHM.out.own.lt k (by rw [← hk]; cases ma <;> rfl)
      have q10l : q10 < wo.heap.size := hHM.out.lt.2.2.1
      clear hml
      go_wp2_with fail
      rw [← HWA.out]
      refine (find17 _ M nm wa (by have := HMA.out.own.reads; exact this)).mono ?_
      rintro e w' ⟨⟨r, rfl, hf⟩, rfl⟩
      have HF := Lib.hid hf
      clear q8c q8f q10c hf x0 x1 x2 x3 x4
      have q10c : wa.cell? ⟨q10, 0, none⟩ = some (.slice ma ml mc) := by rw [cell_of_heap HMA.out.c10]; rfl
      have y0 : wa.cell? ⟨wo.heap.size, 0, none⟩ = some (.int .i64 kind) := by rw [cell_of_heap HB12.out]; rfl
      go_upto_block 2 with fail
      go_cut [15, 16, 17, 19] from 68 to 144 (fun _ _ _ _ wx => ∃ (D' : HD) (nn' : Nat) (M' : List Hld) (mv' : Value), nn' ≤ nn + 1 ∧ Hid (HM w wx w.heap.size (w.heap.size + 1) q10 b mb lo hi D' nn' M' mv' DS) ∧ Hid (TM D' M' ∧ M'.length ≤ 16))
      case first =>
        as_aux_lemma =>
          go_upto_if 84 with fail
          go_cut [84] from 85 to 87 (fun t wx => t = .bool (isAdd kind) ∧ wa = wx)
          case first =>
            by_cases e0 : kind = 0
            · have k0 : (kind == 0) = true := by simp [e0]
              have hA : Hid (isAdd kind = true) := decide_eq_true (.inl e0)
              clear e0
              go_wp2_with fail
              go_meet
              exact ⟨by rw [hA.out, k0], rfl⟩
            have k0 : (kind == 0) = false := by simp [e0]
            by_cases e1 : kind = 1
            · have k1 : (kind == 1) = true := by simp [e1]
              have hA : Hid (isAdd kind = true) := decide_eq_true (.inr (.inl e1))
              clear e0 e1
              go_wp2_with fail
              go_meet
              exact ⟨by rw [hA.out], rfl⟩
            have k1 : (kind == 1) = false := by simp [e1]
            by_cases e2 : kind = 2
            · have k2 : (kind == 2) = true := by simp [e2]
              have hA : Hid (isAdd kind = true) := decide_eq_true (.inr (.inr e2))
              clear e0 e1 e2
              go_wp2_with fail
              go_meet
              exact ⟨by rw [hA.out], rfl⟩
            have k2 : (kind == 2) = false := by simp [e2]
            have hA : Hid (isAdd kind = false) := decide_eq_false (fun h => by rcases h with h | h | h <;> contradiction)
            clear e0 e1 e2
            go_wp2_with fail
            go_meet
            exact ⟨by rw [hA.out], rfl⟩
          case rest =>
            obtain ⟨rfl, rfl⟩ := hcut
            by_cases hadd : isAdd kind = true
            · rw [hadd]
              clear hadd
              have y130 : wa.cell? ⟨wo.heap.size + 1, 0, none⟩ = some (.string ⟨nm.toArray⟩) := by rw [cell_of_heap HB13.out]; rfl
              have y131 : wa.cell? ⟨wo.heap.size + 1, 1, none⟩ = some (.string ⟨sr.toArray⟩) := by rw [cell_of_heap HB13.out]; rfl
              have y132 : wa.cell? ⟨wo.heap.size + 1, 2, none⟩ = some (.int .i64 lo1) := by rw [cell_of_heap HB13.out]; rfl
              have y133 : wa.cell? ⟨wo.heap.size + 1, 3, none⟩ = some (.int .i64 hi1) := by rw [cell_of_heap HB13.out]; rfl
              go_upto_region 26 with fail
              go_cut [92] from 93 to 107 (fun t wx => t = .bool (badN nm sr) ∧ wa = wx)
              case first =>
                have R1 := Lib.hid (right12 nm wa (by omega))
                have R2 := Lib.hid (right12 sr wa (by omega))
                by_cases h1 : nameRight nm = true
                · rw [h1] at R1
                  by_cases h2 : sr = []
                  · subst h2
                    have hA : Hid (badN nm [] = false) := by show badN _ _ = _; unfold badN; rw [h1]; rfl
                    clear h1 R2
                    go_wp2_with fail
                    refine R1.out.mono ?_
                    rintro e w' ⟨rfl, rfl⟩
                    go_wp2_with fail
                    go_meet
                    exact ⟨by rw [hA.out], rfl⟩
                  · have e1 : (sr == []) = false := by simpa using h2
                    have e2 : sr.isEmpty = false := by simpa using h2
                    by_cases h3 : nameRight sr = true
                    · rw [h3] at R2
                      have hA : Hid (badN nm sr = false) := by show badN _ _ = _; unfold badN; rw [h1, h3]; simp
                      clear h1 h2 h3
                      go_wp2_with fail
                      refine R1.out.mono ?_
                      rintro e w' ⟨rfl, rfl⟩
                      go_wp2_with fail
                      refine R2.out.mono ?_
                      rintro e w' ⟨rfl, rfl⟩
                      go_wp2_with fail
                      go_meet
                      exact ⟨by rw [hA.out], rfl⟩
                    · have h3' : nameRight sr = false := by simpa using h3
                      rw [h3'] at R2
                      have hA : Hid (badN nm sr = true) := by show badN _ _ = _; unfold badN; rw [h1, h3', e2]; rfl
                      clear h1 h2 h3 h3'
                      go_wp2_with fail
                      refine R1.out.mono ?_
                      rintro e w' ⟨rfl, rfl⟩
                      go_wp2_with fail
                      refine R2.out.mono ?_
                      rintro e w' ⟨rfl, rfl⟩
                      go_wp2_with fail
                      go_meet
                      exact ⟨by rw [hA.out], rfl⟩
                · have h1' : nameRight nm = false := by simpa using h1
                  rw [h1'] at R1
                  have hA : Hid (badN nm sr = true) := by show badN _ _ = _; unfold badN; rw [h1']; rfl
                  clear h1 h1' R2
                  go_wp2_with fail
                  refine R1.out.mono ?_
                  rintro e w' ⟨rfl, rfl⟩
                  go_wp2_with fail
                  go_meet
                  exact ⟨by rw [hA.out], rfl⟩
              case rest =>
                obtain ⟨rfl, rfl⟩ := hcut
                by_cases hbad : badN nm sr = true
                · rw [hbad]
                  have HBN := Lib.hid (badN_iff.1 hbad)
                  clear hbad
                  have AD := add_any wa (fun k => k = b ∨ k = mb) b D nn ⟨nm, sr, lo1, hi1⟩ HMA.out.tab (by omega) (by simp only [maxLen]; omega)
                  have hcode : addCode D ⟨nm, sr, lo1, hi1⟩ = 15 := addCode_15 HBN.out
                  rw [hcode, addTab_no (by rw [hcode]; decide)] at AD
                  have HAD := Lib.hid AD
                  clear AD hcode
                  go_wp2_with fail
                  refine HAD.out.mono ?_
                  rintro e wd ⟨rfl, td, cd⟩
                  have HMD : Hid (HM w wd w.heap.size (w.heap.size + 1) q10 b mb lo hi D (nn + 1) M (.slice ma ml mc) DS) := HMA.out.tabbed td cd
                  clear td cd
                  go_wp2_with fail
                  go_meet
                  exact ⟨D, nn + 1, M, .slice ma ml mc, by omega, HMD.out, hTM.out⟩
                have hbad' : badN nm sr = false := by simpa using hbad
                rw [hbad']
                have HBN : Hid (¬ (nameRight nm = false ∨ (sr ≠ [] ∧ nameRight sr = false))) := fun h => hbad (badN_iff.2 h)
                clear hbad hbad'
                have R3 := Lib.hid (right17 lo1 hi1 wa)
                go_wp2_with fail
                refine R3.out.mono ?_
                rintro e wb ⟨rfl, cb⟩
                have HMB := Lib.hid (HMA.out.same cb)
                have HBB := Lib.hid (cb.heap HB13.out (fun h => h))
                have CB := Lib.hid cb
                clear cb y130 y131 y132 y133 q10c R3
                have y130 : wb.cell? ⟨wo.heap.size + 1, 0, none⟩ = some (.string ⟨nm.toArray⟩) := by rw [cell_of_heap HBB.out]; rfl
                have y131 : wb.cell? ⟨wo.heap.size + 1, 1, none⟩ = some (.string ⟨sr.toArray⟩) := by rw [cell_of_heap HBB.out]; rfl
                have y132 : wb.cell? ⟨wo.heap.size + 1, 2, none⟩ = some (.int .i64 lo1) := by rw [cell_of_heap HBB.out]; rfl
                have y133 : wb.cell? ⟨wo.heap.size + 1, 3, none⟩ = some (.int .i64 hi1) := by rw [cell_of_heap HBB.out]; rfl
                have q10c : wb.cell? ⟨q10, 0, none⟩ = some (.slice ma ml mc) := by rw [cell_of_heap HMB.out.c10]; rfl
                by_cases hrg : rangeB lo1 hi1 = true
                · rw [hrg]
                  have HRG := Lib.hid (of_decide_eq_true (show decide (0 ≤ lo1 ∧ lo1 < hi1 ∧ hi1 ≤ 1099511627777) = true from hrg))
                  clear hrg
                  rcases HF.out with ⟨rfl, hno⟩ | ⟨i, x, rfl, hi, hx⟩
                  · have HNO := Lib.hid hno
                    have hhas : Hid (Maps.has D (.string nm) = false) := by
                      show _ = false
                      cases e : Maps.has D (.string nm) with
                      | false => rfl
                      | true => obtain ⟨y, hy, e2⟩ := (hTM.out.1.has _).1 e; exact absurd e2 (HNO.out y hy)
                    clear hno
                    by_cases h16 : 16 ≤ ml
                    · have i16 : (16 : Int) ≤ ml := by omega
                      have HS : Hid (16 ≤ Maps.size D) := by show _ ≤ _; rw [hTM.out.1.size, ← HML.out]; exact h16
                      have AD := add_any wb (fun k => k = b ∨ k = mb) b D nn ⟨nm, sr, lo1, hi1⟩ HMB.out.tab (by omega) (by simp only [maxLen]; omega)
                      have hcode : addCode D ⟨nm, sr, lo1, hi1⟩ = 6 := addCode_6 HBN.out HRG.out hhas.out HS.out
                      rw [hcode, addTab_no (by rw [hcode]; decide)] at AD
                      have HAD := Lib.hid AD
                      clear AD hcode
                      go_wp2_with fail
                      refine HAD.out.mono ?_
                      rintro e wd ⟨rfl, td, cd⟩
                      have HMD : Hid (HM w wd w.heap.size (w.heap.size + 1) q10 b mb lo hi D (nn + 1) M (.slice ma ml mc) DS) := HMB.out.tabbed td cd
                      clear td cd
                      go_wp2_with fail
                      go_meet
                      exact ⟨D, nn + 1, M, .slice ma ml mc, by omega, HMD.out, hTM.out⟩
                    · have i16 : ¬ (16 : Int) ≤ ml := by omega
                      have HS : Hid (¬ 16 ≤ Maps.size D) := by show ¬ _; rw [hTM.out.1.size, ← HML.out]; exact h16
                      have hf10 : wb.frozen? ⟨q10, 0, none⟩ = false := frozen_of_heap HMB.out.c10 0
                      go_wp2_with (at_builtin; refine halt_ ?_)
                      refine goes_on ?_
                      refine wpList_app_one rfl _ _ 89 rfl 28 (.agg #[.string ⟨#[]⟩, .string ⟨#[]⟩, .int .i64 0, .int .i64 0]) 4 48 Try.underlying89 info_holdP rfl (.slice ma ml mc) ml (M.flatMap Hld.cells) [.string ⟨nm.toArray⟩, .string ⟨sr.toArray⟩, .int .i64 lo1, .int .i64 hi1] _ rfl rfl (by have := HMB.out.own; rw [← HML.out] at this; exact this) rfl (by simp [Value.oneCell']) (by simp only [maxLen]; omega) (by omega) ?_
                      intro v6 w6 own6 c6 in6 nn6
                      obtain ⟨va6, vc6, rfl⟩ := own6.form
                      have own6' : Owns w6 4 (.slice va6 (ml + 1) vc6) (M ++ [(⟨nm, sr, lo1, hi1⟩ : Hld)]).length ((M ++ [(⟨nm, sr, lo1, hi1⟩ : Hld)]).flatMap Hld.cells) := by
                        rw [List.length_append, List.flatMap_append, List.length_singleton, ← HML.out, List.flatMap_cons, List.flatMap_nil, List.append_nil]
                        exact own6
                      have HR6 := Lib.hid (HMB.out.row c6 own6' in6)
                      have hmv : ¬ (Value.slice ma ml mc).ownBlock = some q10 := fun e => (HMB.out.mvb q10 e).2.1 (by simp)
                      have h10 := c6.heap HMB.out.c10 hmv
                      have p1 : w6.cell? ⟨q10, 0, none⟩ = some (.slice ma ml mc) := by rw [cell_of_heap h10]; rfl
                      have p2 : w6.frozen? ⟨q10, 0, none⟩ = false := frozen_of_heap h10 0
                      have hB6 : w6.heap[wo.heap.size + 1]? = _ := c6.heap HBB.out (fun e => by
                        rcases HMB.out.own.2 with ⟨hv, _⟩ | ⟨g9, o9, c9, hv, _, _, _, h9, h10⟩
                        · simp only [Value.slice.injEq] at hv
                          obtain ⟨rfl, _⟩ := hv
                          simp [Value.ownBlock] at e
                        · have hmx := HMO.out (wo.heap.size + 1) e
                          omega)
                      have cS6 : Chg (fun k => k = q10) w6 (w6.setCell ⟨q10, 0, none⟩ (.slice va6 (ml + 1) vc6)) := (Chg.refl (fun k => k = q10) w6).setCell (p := ⟨q10, 0, none⟩) (fun _ => rfl) (.slice va6 (ml + 1) vc6)
                      have hB7 := cS6.heap hB6 (fun e => by have e : wo.heap.size + 1 = q10 := e; omega)
                      obtain ⟨w7, hw7⟩ : ∃ w7, w7 = w6.setCell ⟨q10, 0, none⟩ (.slice va6 (ml + 1) vc6) := ⟨_, rfl⟩
                      rw [← hw7] at HR6 hB7
                      have HB7 := Lib.hid hB7
                      have HW7 := Lib.hid hw7
                      have AD := add_any w7 (fun k => k = b ∨ k = mb) b D nn ⟨nm, sr, lo1, hi1⟩ HR6.out.tab (by omega) (by simp only [maxLen]; omega)
                      have hcode : addCode D ⟨nm, sr, lo1, hi1⟩ = 0 := addCode_0 HBN.out HRG.out hhas.out HS.out
                      rw [hcode, addTab_yes hcode] at AD
                      have HAD := Lib.hid AD
                      clear AD hcode own6 own6' c6 in6 nn6 h10 hB6 cS6 hB7 y130 y131 y132 y133 hw7 q10c
                      have z130 : (w6.setCell ⟨q10, 0, none⟩ (.slice va6 (ml + 1) vc6)).cell? ⟨wo.heap.size + 1, 0, none⟩ = some (.string ⟨nm.toArray⟩) := by rw [← HW7.out, cell_of_heap HB7.out]; rfl
                      have z131 : (w6.setCell ⟨q10, 0, none⟩ (.slice va6 (ml + 1) vc6)).cell? ⟨wo.heap.size + 1, 1, none⟩ = some (.string ⟨sr.toArray⟩) := by rw [← HW7.out, cell_of_heap HB7.out]; rfl
                      have z132 : (w6.setCell ⟨q10, 0, none⟩ (.slice va6 (ml + 1) vc6)).cell? ⟨wo.heap.size + 1, 2, none⟩ = some (.int .i64 lo1) := by rw [← HW7.out, cell_of_heap HB7.out]; rfl
                      have z133 : (w6.setCell ⟨q10, 0, none⟩ (.slice va6 (ml + 1) vc6)).cell? ⟨wo.heap.size + 1, 3, none⟩ = some (.int .i64 hi1) := by rw [← HW7.out, cell_of_heap HB7.out]; rfl
                      go_wp2_with fail
                      rw [← HW7.out]
                      refine HAD.out.mono ?_
                      rintro e wd ⟨rfl, td, cd⟩
                      have HMD := Lib.hid (HR6.out.tabbed td cd)
                      have HTD : Hid (TM (D.put (.string nm) (encH ⟨nm, sr, lo1, hi1⟩)) (M ++ [⟨nm, sr, lo1, hi1⟩]) ∧ (M ++ [(⟨nm, sr, lo1, hi1⟩ : Hld)]).length ≤ 16) := ⟨hTM.out.1.add (h := ⟨nm, sr, lo1, hi1⟩) (by obtain ⟨m9, T9, _, h9, _⟩ := HR6.out.tab; exact h9.tidy strKey) HNO.out (by have := HBN.out; cases e : nameRight nm with
                        | true => rfl
                        | false => exact absurd (.inl e) this), by rw [List.length_append, List.length_singleton, ← HML.out]; omega⟩
                      clear td cd z130 z131 z132 z133
                      go_wp2_with fail
                      go_meet
                      exact ⟨_, nn + 1, _, _, by omega, HMD.out, HTD.out⟩
                  · have HI := Lib.hid hi
                    have HX := Lib.hid hx
                    have hhas : Hid (Maps.has D (.string nm) = true) := (hTM.out.1.has _).2 ⟨x, List.mem_of_getElem? HI.out, HX.out⟩
                    have hi0 : (0 : Int) ≤ (i : Int) := by omega
                    clear hi hx
                    have AD := add_any wb (fun k => k = b ∨ k = mb) b D nn ⟨nm, sr, lo1, hi1⟩ HMB.out.tab (by omega) (by simp only [maxLen]; omega)
                    have hcode : addCode D ⟨nm, sr, lo1, hi1⟩ = 8 := addCode_8 HBN.out HRG.out hhas.out
                    rw [hcode, addTab_no (by rw [hcode]; decide)] at AD
                    have HAD := Lib.hid AD
                    clear AD hcode
                    go_wp2_with fail
                    refine HAD.out.mono ?_
                    rintro e wd ⟨rfl, td, cd⟩
                    have HMD : Hid (HM w wd w.heap.size (w.heap.size + 1) q10 b mb lo hi D (nn + 1) M (.slice ma ml mc) DS) := HMB.out.tabbed td cd
                    clear td cd
                    go_wp2_with fail
                    go_meet
                    exact ⟨D, nn + 1, M, .slice ma ml mc, by omega, HMD.out, hTM.out⟩
                · have hrg' : rangeB lo1 hi1 = false := by simpa using hrg
                  rw [hrg']
                  have HRG := Lib.hid (of_decide_eq_false (show decide (0 ≤ lo1 ∧ lo1 < hi1 ∧ hi1 ≤ 1099511627777) = false from hrg'))
                  clear hrg hrg'
                  have AD := add_any wb (fun k => k = b ∨ k = mb) b D nn ⟨nm, sr, lo1, hi1⟩ HMB.out.tab (by omega) (by simp only [maxLen]; omega)
                  have hcode : addCode D ⟨nm, sr, lo1, hi1⟩ = 3 := addCode_3 HBN.out HRG.out
                  rw [hcode, addTab_no (by rw [hcode]; decide)] at AD
                  have HAD := Lib.hid AD
                  clear AD hcode
                  go_wp2_with fail
                  refine HAD.out.mono ?_
                  rintro e wd ⟨rfl, td, cd⟩
                  have HMD : Hid (HM w wd w.heap.size (w.heap.size + 1) q10 b mb lo hi D (nn + 1) M (.slice ma ml mc) DS) := HMB.out.tabbed td cd
                  clear td cd
                  go_wp2_with fail
                  go_meet
                  exact ⟨D, nn + 1, M, .slice ma ml mc, by omega, HMD.out, hTM.out⟩
            · have hadd' : isAdd kind = false := by simpa using hadd
              rw [hadd']
              have hk3 : kind ≠ 3 ∨ kind = 3 := by omega
              clear hadd hadd'
              rcases hk3 with hk3 | hk3
              · have k3 : (kind == 3) = false := by simp [hk3]
                clear hk3
                have HOW : Hid (Owns wa 4 (.slice ma ml mc) ml (M.flatMap Hld.cells)) := by have h := HMA.out.own; rw [← HML.out] at h; exact h
                have CPY := Lib.hid (copy_any wa (fun k => k = b ∨ k = mb) b D nn HMA.out.tab)
                go_wp2_with fail
                refine CPY.out.mono ?_
                rintro e wb ⟨c, rfl, tc, cb⟩
                have TC0 := Lib.hid tc
                have CB0 := Lib.hid cb
                have q10c : wb.cell? ⟨q10, 0, none⟩ = some (.slice ma ml mc) := by rw [cell_of_heap (HMA.out.same cb).c10]; rfl
                have TM0 : Hid (TM D (M.drop 0)) := by rw [List.drop_zero]; exact hTM.out.1
                clear tc cb CPY y0
                go_wp2_with fail
                go_loopw [19, 72] (fun _ i wl => ∃ (j : Nat) (Dj : HD), j ≤ ml ∧ i = .int .i64 j ∧ Hid (TabAt wl (fun k => wa.heap.size ≤ k) c Dj nn) ∧ Hid (TM Dj (M.drop j)) ∧ Hid (Chg (fun _ => False) wa wl)) (fun _ i _ => ml - (intOf i).toNat)
                case atStart => exact ⟨0, D, by omega, rfl, TC0.out, TM0.out, CB0.out⟩
                case round =>
                  obtain ⟨j, Dj, hj, rfl, hT, hM, hC⟩ := hrel
                  by_cases hjl : j < ml
                  · obtain ⟨x, hx⟩ : ∃ x, M[j]? = some x := ⟨_, List.getElem?_eq_getElem (by rw [← HML.out]; exact hjl)⟩
                    obtain ⟨g9, o9, hma, m0, m1, m2, m3⟩ := hold_cells (HOW.out.reads.kept hC.out (fun _ _ h => h)) HML.out j x hx
                    obtain ⟨xn, xs9, xlo, xhi⟩ := x
                    simp only at m0 m1 m2 m3
                    subst hma
                    obtain ⟨wx, hwx⟩ : ∃ wx, wx = wr.alloc (.cells #[.string ⟨xn.toArray⟩, .string ⟨xs9.toArray⟩, .int .i64 xlo, .int .i64 xhi] 28) := ⟨_, rfl⟩
                    have cwx : Chg (fun _ => False) wr wx := by rw [hwx]; exact (Chg.refl _ wr).alloc _
                    have hx0 : (M.drop j)[0]? = some ⟨xn, xs9, xlo, xhi⟩ := by rw [List.getElem?_drop, Nat.add_zero]; exact hx
                    have hmem : (⟨xn, xs9, xlo, xhi⟩ : Hld) ∈ M.drop j := List.mem_of_getElem? hx0
                    have hxl : xn.length ≤ 16 := by
                      have := hM.out.nm _ hmem
                      unfold nameRight at this
                      exact (of_decide_eq_true this).2.1
                    have RL := release_any wx (fun k => wa.heap.size ≤ k) c Dj nn xn (hT.out.kept cwx (fun _ _ h => h)) (by simp only [maxLen]; omega)
                    have hhas : Maps.has Dj (.string xn) = true := (hM.out.has _).2 ⟨_, hmem, rfl⟩
                    rw [show relCode Dj xn = 0 from if_pos hhas, show relTab Dj xn = Dj.del (.string xn) from if_pos hhas] at RL
                    have HRL := Lib.hid RL
                    have HMJ : Hid (TM (Dj.del (.string xn)) (M.drop (j + 1))) := by
                      have h := hM.out.del (by obtain ⟨m9, T9, _, h9, _⟩ := hT.out; exact h9.tidy strKey) hx0
                      rw [List.take_zero, List.nil_append, List.drop_drop] at h
                      exact h
                    have HWX := Lib.hid hwx
                    have CWX := Lib.hid cwx
                    clear RL hhas hx hx0 hmem hxl hwx cwx
                    go_wp2_with fail
                    rw [← HWX.out]
                    refine HRL.out.mono ?_
                    rintro e wy ⟨rfl, ty, cy⟩
                    have hz := hC.out.size
                    have cJ : Hid (Chg (fun _ => False) wa wy) := (hC.out.trans CWX.out).new cy (fun k hk => hk)
                    have TY := Lib.hid ty
                    clear ty cy
                    go_wp2_with fail
                    exact ⟨⟨j + 1, _, by omega, rfl, TY.out, HMJ.out, cJ.out⟩, by simp only [intOf]; omega⟩
                  · obtain rfl : j = ml := by omega
                    have HL0 := hlen_any wr (fun k => wa.heap.size ≤ k) c Dj nn hT.out
                    have hs0 : Maps.size Dj = 0 := by rw [hM.out.size, List.length_drop, ← HML.out]; omega
                    rw [hs0] at HL0
                    have HLN := Lib.hid HL0
                    clear HL0 hs0
                    go_wp2_with fail
                    refine HLN.out.mono ?_
                    rintro e w' ⟨rfl, rfl⟩
                    have HMD := Lib.hid (HMA.out.same hC.out)
                    go_wp2_with fail
                    go_meet
                    exact ⟨D, nn, M, .slice ma j mc, by omega, HMD.out, hTM.out⟩
              · subst hk3
                rcases HF.out with ⟨rfl, hno⟩ | ⟨i, x, rfl, hi, hx⟩
                · have hhas : Maps.has D (.string nm) = false := by
                    cases e : Maps.has D (.string nm) with
                    | false => rfl
                    | true => obtain ⟨y, hy, e2⟩ := (hTM.out.1.has _).1 e; exact absurd e2 (hno y hy)
                  have RL := release_any wa (fun k => k = b ∨ k = mb) b D nn nm HMA.out.tab (by simp only [maxLen]; omega)
                  rw [show relCode D nm = 7 from if_neg (by rw [hhas]; simp), show relTab D nm = D from if_neg (by rw [hhas]; simp)] at RL
                  have HRL := Lib.hid RL
                  have y130 : wa.cell? ⟨wo.heap.size + 1, 0, none⟩ = some (.string ⟨nm.toArray⟩) := by rw [cell_of_heap HB13.out]; rfl
                  clear RL hno hhas
                  go_wp2_with fail
                  refine HRL.out.mono ?_
                  rintro e wd ⟨rfl, td, cd⟩
                  have HMD : Hid (HM w wd w.heap.size (w.heap.size + 1) q10 b mb lo hi D nn M (.slice ma ml mc) DS) := HMA.out.tabbed td cd
                  clear td cd
                  go_wp2_with fail
                  go_meet
                  exact ⟨D, nn, M, .slice ma ml mc, by omega, HMD.out, hTM.out⟩
                · have hi0 : (0 : Int) ≤ (i : Int) := by omega
                  have hil : i < ml := by rw [HML.out]; exact (List.getElem?_eq_some_iff.1 hi).1
                  have HI := Lib.hid hi
                  have HX := Lib.hid hx
                  clear hi hx
                  have hmc : ml ≤ mc := by have h := HMA.out.own; rw [← HML.out] at h; have := h.cap_ge; omega
                  have HOW : Hid (Owns wa 4 (.slice ma ml mc) ml (M.flatMap Hld.cells)) := by have h := HMA.out.own; rw [← HML.out] at h; exact h
                  have HOB : Hid (∀ k, (Value.slice ma ml mc).ownBlock = some k → k < wa.heap.size) := fun k hk => HOW.out.lt k hk
                  have HONE : Hid (∀ u ∈ M.flatMap Hld.cells, u.oneCell' = true) := fun u hu => by
                    obtain ⟨h, _, hu⟩ := List.mem_flatMap.1 hu
                    simp [Hld.cells] at hu
                    rcases hu with rfl | rfl | rfl | rfl <;> rfl
                  obtain ⟨pv, hpv⟩ : ∃ pv, pv = Value.slice (if mc = i + 1 then ma else ma.map (·.add ((i + 1) * 4))) (ml - (i + 1)) (mc - (i + 1)) := ⟨_, rfl⟩
                  have HS8 : Hid (∀ w : World, (Instr.sliceAt 89 (.slice ma ml mc) (some (.int .i64 ((i : Int) + 1))) none none).run Try.prog w = .ok pv w) := fun w => by
                    have := slice_loP4 w ma ml mc (i + 1) (by omega)
                    rw [show ((i + 1 : Nat) : Int) = (i : Int) + 1 by omega] at this
                    rw [hpv]; exact this
                  have HRD : Hid (Reads wa 4 pv (ml - (i + 1)) ((M.flatMap Hld.cells).drop ((i + 1) * 4))) := by rw [hpv]; exact HOW.out.reads.drop (by omega) hmc
                  have HPB : Hid (∀ k, pv.ownBlock = some k → k < wa.heap.size) := fun k hk => HRD.out.lt k hk
                  have CD : Hid (Chg (fun k => wa.heap.size ≤ k) wa wa.drew) := (Chg.refl _ wa).drew
                  have HFI : Hid (∀ (wz : World) (va2 : Option Addr) (vc2 : Nat), Chg (fun k => wa.heap.size ≤ k) wa wz → (∀ k, (Value.slice va2 (i + (ml - (i + 1))) vc2).ownBlock = some k → wa.heap.size ≤ k) → Owns wz 4 (.slice va2 (i + (ml - (i + 1))) vc2) (i + (ml - (i + 1))) ((M.flatMap Hld.cells).take (i * 4) ++ (M.flatMap Hld.cells).drop ((i + 1) * 4)) →
                      Hid (HM w (wz.setCell ⟨q10, 0, none⟩ (.slice va2 (i + (ml - (i + 1))) vc2)) w.heap.size (w.heap.size + 1) q10 b mb lo hi D nn (M.take i ++ M.drop (i + 1)) (.slice va2 (i + (ml - (i + 1))) vc2) DS) ∧ Hid ((wz.setCell ⟨q10, 0, none⟩ (.slice va2 (i + (ml - (i + 1))) vc2)).heap[wo.heap.size + 1]? = some (.cells #[.string ⟨nm.toArray⟩, .string ⟨sr.toArray⟩, .int .i64 lo1, .int .i64 hi1] 28 (0, 0)))) := fun wz va2 vc2 c2 i2 o2 => by
                    have cF : Chg (fun _ => False) wa wz := c2.mono (fun k hk h => by have h : wa.heap.size ≤ k := h; omega)
                    have hlen : (M.take i ++ M.drop (i + 1)).length = i + (ml - (i + 1)) := by rw [List.length_append, List.length_take, List.length_drop, ← HML.out]; omega
                    have hfm : (M.take i ++ M.drop (i + 1)).flatMap Hld.cells = (M.flatMap Hld.cells).take (i * 4) ++ (M.flatMap Hld.cells).drop ((i + 1) * 4) := by
                      rw [List.flatMap_append, rows_take M (s := 4) (f := Hld.cells) (fun _ _ => rfl), rows_drop M (s := 4) (f := Hld.cells) (fun _ _ => rfl)]
                    have hz := CWA.out.size
                    have hz2 := cF.size
                    refine ⟨HMA.out.row (cF.mono (fun _ _ h => h.elim)) (by rw [hlen, hfm]; exact o2) (fun k hk => .inr (i2 k hk)), ?_⟩
                    have hb := (Array.getElem?_eq_some_iff.1 HB13.out).1
                    exact ((Chg.refl (fun k => k = q10) wz).setCell (p := ⟨q10, 0, none⟩) (fun _ => rfl) _).heap (cF.heap HB13.out (fun h => h)) (fun e => by have e : wo.heap.size + 1 = q10 := e; omega)
                  have q10a : q10 < wa.heap.size := HMA.out.lt.2.2.1
                  clear hpv
                  go_upto_region 40 with fail
                  go_cut [129] from 130 to 138 (fun _ wx => ∃ v2, Hid (HM w wx w.heap.size (w.heap.size + 1) q10 b mb lo hi D nn (M.take i ++ M.drop (i + 1)) v2 DS) ∧ Hid (wx.heap[wo.heap.size + 1]? = some (.cells #[.string ⟨nm.toArray⟩, .string ⟨sr.toArray⟩, .int .i64 lo1, .int .i64 hi1] 28 (0, 0))))
                  case first =>
                    as_aux_lemma =>
                    refine nop ?_
                    refine wpT.begin (fun k => k = q10 ∨ wa.heap.size ≤ k) 11 (by kernel_rfl) rfl ?_
                    obtain ⟨wd0, hwd0⟩ : ∃ x, x = wa.drew := ⟨_, rfl⟩
                    rw [← hwd0]
                    rw [← hwd0] at CD
                    clear hwd0
                    have ew : IntKind.i64.wrap ((i : Int) + 1) = (i : Int) + 1 := IntWalk.i64_in _ (by omega)
                    refine wpT.take 2 rfl (by kernel_rfl) (fun _ _ _ h => h) rfl (fun w' hw' => by go_simp <;> with_reducible rfl) ?_
                    simp only [Act.put, List.setIfInBounds_toArray, List.set_cons_zero, List.set_cons_succ]
                    refine wpT.take 6 rfl (by kernel_rfl) (fun _ _ _ h => h) rfl (fun w' hw' => by go_simp <;> with_reducible rfl) ?_
                    simp only [Act.put, List.setIfInBounds_toArray, List.set_cons_zero, List.set_cons_succ]
                    refine wpT.take (v := .int .i64 ((i : Int) + 1)) 7 rfl (by kernel_rfl) (fun _ _ _ h => h) rfl (fun w' hw' => by go_simp <;> with_reducible rfl) ?_
                    simp only [Act.put, List.setIfInBounds_toArray, List.set_cons_zero, List.set_cons_succ]
                    clear ew
                    refine wpT.three 0 1 5 rfl rfl rfl (by kernel_rfl) rfl rfl rfl (fun K hK => ?_) (fun K hK => ?_) (fun K hK => ?_)
                    · obtain ⟨wg, hwg⟩ : ∃ wg, wg = (wd0).alloc (.cells #[] 28) := ⟨_, rfl⟩
                      have og : Hid (Owns wg 4 (.slice (some ⟨(wd0).heap.size, 0, none⟩) 0 0) 0 []) := by rw [hwg]; exact Owns.empty _ _ _
                      have cg : Hid (Chg (fun k => wa.heap.size ≤ k) wa wg) := by rw [hwg]; exact CD.out.alloc _
                      have gz : Hid (wa.heap.size ≤ (wd0).heap.size) := CD.out.size
                      go_simp
                      rw [← hwg]
                      refine hK _ _ (by rw [hwg]; exact (Chg.refl _ _).alloc _) ?_
                      clear hK
                      try (simp only [Act.put, List.setIfInBounds_toArray, List.set_cons_zero, List.set_cons_succ])
                      refine wpT.both 1 5 rfl rfl (by kernel_rfl) rfl rfl (fun K hK => ?_) (fun K hK => ?_)
                      · refine wp_run _ _ (exec_load _ _ _ _ rfl rfl (load_sliceP (wg) ⟨q10, 0, none⟩ ma ml mc (by rw [cell_of_heap (cg.out.heap HMA.out.c10 (fun h => by have h : wa.heap.size ≤ q10 := h; omega))]; rfl))) ?_
                        refine hK _ _ (Chg.refl _ _) ?_
                        clear hK
                        simp only [Act.put, List.setIfInBounds_toArray, List.set_cons_zero, List.set_cons_succ]
                        refine wpT.take (v := .slice ma i mc) 3 rfl (by kernel_rfl) (fun _ _ _ h => h) rfl (fun w' _ => exec_sliceP _ _ _ _ _ rfl _ (slice_hiP w' ma ml mc i (by omega))) ?_
                        simp only [Act.put, List.setIfInBounds_toArray, List.set_cons_zero, List.set_cons_succ]
                        refine wpT.both 4 5 rfl rfl (by kernel_rfl) rfl rfl (fun K hK => ?_) (fun K hK => ?_)
                        · refine wp_app _ _ 89 rfl 28 (.agg #[.string ⟨#[]⟩, .string ⟨#[]⟩, .int .i64 0, .int .i64 0]) 4 48 Try.underlying89 info_holdP rfl (.slice (some ⟨(wd0).heap.size, 0, none⟩) 0 0) 0 [] rfl og.out (.slice ma i mc) i ((M.flatMap Hld.cells).take (i * 4)) rfl ((Owns.front HOW.out (hi := i) (m := mc) (by omega) (by omega) (Nat.le_refl _)).reads.kept cg.out (fun k hk h => by have := HOB.out k (by rw [← hk]; cases ma <;> rfl); have h : wa.heap.size ≤ k := h; omega)) (fun u hu => HONE.out u (List.mem_of_mem_take hu)) (by simp only [maxLen]; omega) (by omega) ?_
                          intro v1 wv own1 c1 in1 _
                          rw [Nat.zero_add, List.nil_append] at own1
                          have cv : Hid (Chg (fun k => wa.heap.size ≤ k) wa wv) := cg.out.trans (c1.mono (fun k _ hk => by have := gz.out; simp [Value.ownBlock] at hk; show wa.heap.size ≤ k; omega))
                          have iv : Hid (∀ k, v1.ownBlock = some k → wa.heap.size ≤ k) := fun k hk => by
                            have h1 := gz.out
                            have h2 := cg.out.size
                            rcases in1 k hk with h | h
                            · simp [Value.ownBlock] at h; omega
                            · omega
                          obtain ⟨va1, vc1, rfl⟩ := own1.form
                          have OV := Lib.hid own1
                          refine hK _ _ (c1.mono (fun k _ hk => by have := gz.out; simp [Value.ownBlock] at hk; right; omega)) ?_
                          clear hK own1 c1 in1
                          simp only [Act.put, List.setIfInBounds_toArray, List.set_cons_zero, List.set_cons_succ]
                          refine wpT.call 5 rfl (by kernel_rfl) rfl (fun K hK => ?_)
                          refine wp_run _ _ (exec_load _ _ _ _ rfl rfl (load_sliceP (wv) ⟨q10, 0, none⟩ ma ml mc (by rw [cell_of_heap (cv.out.heap HMA.out.c10 (fun h => by have h : wa.heap.size ≤ q10 := h; omega))]; rfl))) ?_
                          refine hK _ _ (Chg.refl _ _) ?_
                          clear hK
                          simp only [Act.put, List.setIfInBounds_toArray, List.set_cons_zero, List.set_cons_succ]
                          refine wpT.take (v := pv) 8 rfl (by kernel_rfl) (fun _ _ _ h => h) rfl (fun w' _ => exec_sliceP _ _ _ _ _ rfl _ (HS8.out w')) ?_
                          simp only [Act.put, List.setIfInBounds_toArray, List.set_cons_zero, List.set_cons_succ]
                          refine wpT.call 9 rfl (by kernel_rfl) rfl (fun K hK => ?_)
                          refine wp_app _ _ 89 rfl 28 (.agg #[.string ⟨#[]⟩, .string ⟨#[]⟩, .int .i64 0, .int .i64 0]) 4 48 Try.underlying89 info_holdP rfl (.slice va1 i vc1) i ((M.flatMap Hld.cells).take (i * 4)) rfl OV.out pv (ml - (i + 1)) ((M.flatMap Hld.cells).drop ((i + 1) * 4)) rfl (HRD.out.kept cv.out (fun k hk h => by have := HPB.out k hk; have h : wa.heap.size ≤ k := h; omega)) (fun u hu => HONE.out u (List.mem_of_mem_drop hu)) (by simp only [maxLen]; omega) (by omega) ?_
                          intro v2 wz own2 c2 in2 _
                          have cz : Hid (Chg (fun k => wa.heap.size ≤ k) wa wz) := cv.out.trans (c2.mono (fun k _ hk => iv.out k hk))
                          have iz : Hid (∀ k, v2.ownBlock = some k → wa.heap.size ≤ k) := fun k hk => by
                            have h2 := cv.out.size
                            rcases in2 k hk with h | h
                            · exact iv.out k h
                            · omega
                          obtain ⟨va2, vc2, rfl⟩ := own2.form
                          have OZ := Lib.hid own2
                          refine hK _ _ (c2.mono (fun k _ hk => .inr (iv.out k hk))) ?_
                          clear hK own2 c2 in2
                          simp only [Act.put, List.setIfInBounds_toArray, List.set_cons_zero, List.set_cons_succ]
                          have h10 := cz.out.heap HMA.out.c10 (fun h => by have h : wa.heap.size ≤ q10 := h; omega)
                          refine wpT.st 10 rfl (by kernel_rfl) rfl _ _ _ rfl (by kernel_rfl) ⟨q10, 0, none⟩ rfl (.slice va2 (i + (ml - (i + 1))) vc2) rfl (.slice ma ml mc) (by rw [cell_of_heap h10]; rfl) (frozen_of_heap h10 0) rfl (.inl rfl) ?_
                          have HFIN := HFI.out wz va2 vc2 cz.out iz.out OZ.out
                          clear h10
                          refine wpT.done (by kernel_rfl) ?_
                          refine nop_normal ?_
                          go_wp2_with fail
                          go_meet
                          exact ⟨_, HFIN⟩
                        · refine wp_run _ _ (exec_load _ _ _ _ rfl rfl (load_sliceP (wg) ⟨q10, 0, none⟩ ma ml mc (by rw [cell_of_heap (cg.out.heap HMA.out.c10 (fun h => by have h : wa.heap.size ≤ q10 := h; omega))]; rfl))) ?_
                          refine hK _ _ (Chg.refl _ _) ?_
                          clear hK
                          simp only [Act.put, List.setIfInBounds_toArray, List.set_cons_zero, List.set_cons_succ]
                          refine wpT.take (v := pv) 8 rfl (by kernel_rfl) (fun _ _ _ h => h) rfl (fun w' _ => exec_sliceP _ _ _ _ _ rfl _ (HS8.out w')) ?_
                          simp only [Act.put, List.setIfInBounds_toArray, List.set_cons_zero, List.set_cons_succ]
                          refine wpT.call 4 rfl (by kernel_rfl) rfl (fun K hK => ?_)
                          refine wp_app _ _ 89 rfl 28 (.agg #[.string ⟨#[]⟩, .string ⟨#[]⟩, .int .i64 0, .int .i64 0]) 4 48 Try.underlying89 info_holdP rfl (.slice (some ⟨(wd0).heap.size, 0, none⟩) 0 0) 0 [] rfl og.out (.slice ma i mc) i ((M.flatMap Hld.cells).take (i * 4)) rfl ((Owns.front HOW.out (hi := i) (m := mc) (by omega) (by omega) (Nat.le_refl _)).reads.kept cg.out (fun k hk h => by have := HOB.out k (by rw [← hk]; cases ma <;> rfl); have h : wa.heap.size ≤ k := h; omega)) (fun u hu => HONE.out u (List.mem_of_mem_take hu)) (by simp only [maxLen]; omega) (by omega) ?_
                          intro v1 wv own1 c1 in1 _
                          rw [Nat.zero_add, List.nil_append] at own1
                          have cv : Hid (Chg (fun k => wa.heap.size ≤ k) wa wv) := cg.out.trans (c1.mono (fun k _ hk => by have := gz.out; simp [Value.ownBlock] at hk; show wa.heap.size ≤ k; omega))
                          have iv : Hid (∀ k, v1.ownBlock = some k → wa.heap.size ≤ k) := fun k hk => by
                            have h1 := gz.out
                            have h2 := cg.out.size
                            rcases in1 k hk with h | h
                            · simp [Value.ownBlock] at h; omega
                            · omega
                          obtain ⟨va1, vc1, rfl⟩ := own1.form
                          have OV := Lib.hid own1
                          refine hK _ _ (c1.mono (fun k _ hk => by have := gz.out; simp [Value.ownBlock] at hk; right; omega)) ?_
                          clear hK own1 c1 in1
                          simp only [Act.put, List.setIfInBounds_toArray, List.set_cons_zero, List.set_cons_succ]
                          refine wpT.call 9 rfl (by kernel_rfl) rfl (fun K hK => ?_)
                          refine wp_app _ _ 89 rfl 28 (.agg #[.string ⟨#[]⟩, .string ⟨#[]⟩, .int .i64 0, .int .i64 0]) 4 48 Try.underlying89 info_holdP rfl (.slice va1 i vc1) i ((M.flatMap Hld.cells).take (i * 4)) rfl OV.out pv (ml - (i + 1)) ((M.flatMap Hld.cells).drop ((i + 1) * 4)) rfl (HRD.out.kept cv.out (fun k hk h => by have := HPB.out k hk; have h : wa.heap.size ≤ k := h; omega)) (fun u hu => HONE.out u (List.mem_of_mem_drop hu)) (by simp only [maxLen]; omega) (by omega) ?_
                          intro v2 wz own2 c2 in2 _
                          have cz : Hid (Chg (fun k => wa.heap.size ≤ k) wa wz) := cv.out.trans (c2.mono (fun k _ hk => iv.out k hk))
                          have iz : Hid (∀ k, v2.ownBlock = some k → wa.heap.size ≤ k) := fun k hk => by
                            have h2 := cv.out.size
                            rcases in2 k hk with h | h
                            · exact iv.out k h
                            · omega
                          obtain ⟨va2, vc2, rfl⟩ := own2.form
                          have OZ := Lib.hid own2
                          refine hK _ _ (c2.mono (fun k _ hk => .inr (iv.out k hk))) ?_
                          clear hK own2 c2 in2
                          simp only [Act.put, List.setIfInBounds_toArray, List.set_cons_zero, List.set_cons_succ]
                          have h10 := cz.out.heap HMA.out.c10 (fun h => by have h : wa.heap.size ≤ q10 := h; omega)
                          refine wpT.st 10 rfl (by kernel_rfl) rfl _ _ _ rfl (by kernel_rfl) ⟨q10, 0, none⟩ rfl (.slice va2 (i + (ml - (i + 1))) vc2) rfl (.slice ma ml mc) (by rw [cell_of_heap h10]; rfl) (frozen_of_heap h10 0) rfl (.inl rfl) ?_
                          have HFIN := HFI.out wz va2 vc2 cz.out iz.out OZ.out
                          clear h10
                          refine wpT.done (by kernel_rfl) ?_
                          refine nop_normal ?_
                          go_wp2_with fail
                          go_meet
                          exact ⟨_, HFIN⟩
                      · refine wp_run _ _ (exec_load _ _ _ _ rfl rfl (load_sliceP (wg) ⟨q10, 0, none⟩ ma ml mc (by rw [cell_of_heap (cg.out.heap HMA.out.c10 (fun h => by have h : wa.heap.size ≤ q10 := h; omega))]; rfl))) ?_
                        refine hK _ _ (Chg.refl _ _) ?_
                        clear hK
                        simp only [Act.put, List.setIfInBounds_toArray, List.set_cons_zero, List.set_cons_succ]
                        refine wpT.take (v := pv) 8 rfl (by kernel_rfl) (fun _ _ _ h => h) rfl (fun w' _ => exec_sliceP _ _ _ _ _ rfl _ (HS8.out w')) ?_
                        simp only [Act.put, List.setIfInBounds_toArray, List.set_cons_zero, List.set_cons_succ]
                        refine wpT.call 1 rfl (by kernel_rfl) rfl (fun K hK => ?_)
                        refine wp_run _ _ (exec_load _ _ _ _ rfl rfl (load_sliceP (wg) ⟨q10, 0, none⟩ ma ml mc (by rw [cell_of_heap (cg.out.heap HMA.out.c10 (fun h => by have h : wa.heap.size ≤ q10 := h; omega))]; rfl))) ?_
                        refine hK _ _ (Chg.refl _ _) ?_
                        clear hK
                        simp only [Act.put, List.setIfInBounds_toArray, List.set_cons_zero, List.set_cons_succ]
                        refine wpT.take (v := .slice ma i mc) 3 rfl (by kernel_rfl) (fun _ _ _ h => h) rfl (fun w' _ => exec_sliceP _ _ _ _ _ rfl _ (slice_hiP w' ma ml mc i (by omega))) ?_
                        simp only [Act.put, List.setIfInBounds_toArray, List.set_cons_zero, List.set_cons_succ]
                        refine wpT.call 4 rfl (by kernel_rfl) rfl (fun K hK => ?_)
                        refine wp_app _ _ 89 rfl 28 (.agg #[.string ⟨#[]⟩, .string ⟨#[]⟩, .int .i64 0, .int .i64 0]) 4 48 Try.underlying89 info_holdP rfl (.slice (some ⟨(wd0).heap.size, 0, none⟩) 0 0) 0 [] rfl og.out (.slice ma i mc) i ((M.flatMap Hld.cells).take (i * 4)) rfl ((Owns.front HOW.out (hi := i) (m := mc) (by omega) (by omega) (Nat.le_refl _)).reads.kept cg.out (fun k hk h => by have := HOB.out k (by rw [← hk]; cases ma <;> rfl); have h : wa.heap.size ≤ k := h; omega)) (fun u hu => HONE.out u (List.mem_of_mem_take hu)) (by simp only [maxLen]; omega) (by omega) ?_
                        intro v1 wv own1 c1 in1 _
                        rw [Nat.zero_add, List.nil_append] at own1
                        have cv : Hid (Chg (fun k => wa.heap.size ≤ k) wa wv) := cg.out.trans (c1.mono (fun k _ hk => by have := gz.out; simp [Value.ownBlock] at hk; show wa.heap.size ≤ k; omega))
                        have iv : Hid (∀ k, v1.ownBlock = some k → wa.heap.size ≤ k) := fun k hk => by
                          have h1 := gz.out
                          have h2 := cg.out.size
                          rcases in1 k hk with h | h
                          · simp [Value.ownBlock] at h; omega
                          · omega
                        obtain ⟨va1, vc1, rfl⟩ := own1.form
                        have OV := Lib.hid own1
                        refine hK _ _ (c1.mono (fun k _ hk => by have := gz.out; simp [Value.ownBlock] at hk; right; omega)) ?_
                        clear hK own1 c1 in1
                        simp only [Act.put, List.setIfInBounds_toArray, List.set_cons_zero, List.set_cons_succ]
                        refine wpT.call 9 rfl (by kernel_rfl) rfl (fun K hK => ?_)
                        refine wp_app _ _ 89 rfl 28 (.agg #[.string ⟨#[]⟩, .string ⟨#[]⟩, .int .i64 0, .int .i64 0]) 4 48 Try.underlying89 info_holdP rfl (.slice va1 i vc1) i ((M.flatMap Hld.cells).take (i * 4)) rfl OV.out pv (ml - (i + 1)) ((M.flatMap Hld.cells).drop ((i + 1) * 4)) rfl (HRD.out.kept cv.out (fun k hk h => by have := HPB.out k hk; have h : wa.heap.size ≤ k := h; omega)) (fun u hu => HONE.out u (List.mem_of_mem_drop hu)) (by simp only [maxLen]; omega) (by omega) ?_
                        intro v2 wz own2 c2 in2 _
                        have cz : Hid (Chg (fun k => wa.heap.size ≤ k) wa wz) := cv.out.trans (c2.mono (fun k _ hk => iv.out k hk))
                        have iz : Hid (∀ k, v2.ownBlock = some k → wa.heap.size ≤ k) := fun k hk => by
                          have h2 := cv.out.size
                          rcases in2 k hk with h | h
                          · exact iv.out k h
                          · omega
                        obtain ⟨va2, vc2, rfl⟩ := own2.form
                        have OZ := Lib.hid own2
                        refine hK _ _ (c2.mono (fun k _ hk => .inr (iv.out k hk))) ?_
                        clear hK own2 c2 in2
                        simp only [Act.put, List.setIfInBounds_toArray, List.set_cons_zero, List.set_cons_succ]
                        have h10 := cz.out.heap HMA.out.c10 (fun h => by have h : wa.heap.size ≤ q10 := h; omega)
                        refine wpT.st 10 rfl (by kernel_rfl) rfl _ _ _ rfl (by kernel_rfl) ⟨q10, 0, none⟩ rfl (.slice va2 (i + (ml - (i + 1))) vc2) rfl (.slice ma ml mc) (by rw [cell_of_heap h10]; rfl) (frozen_of_heap h10 0) rfl (.inl rfl) ?_
                        have HFIN := HFI.out wz va2 vc2 cz.out iz.out OZ.out
                        clear h10
                        refine wpT.done (by kernel_rfl) ?_
                        refine nop_normal ?_
                        go_wp2_with fail
                        go_meet
                        exact ⟨_, HFIN⟩
                    · refine wp_run _ _ (exec_load _ _ _ _ rfl rfl (load_sliceP (wd0) ⟨q10, 0, none⟩ ma ml mc (by rw [cell_of_heap (CD.out.heap HMA.out.c10 (fun h => by have h : wa.heap.size ≤ q10 := h; omega))]; rfl))) ?_
                      refine hK _ _ (Chg.refl _ _) ?_
                      clear hK
                      simp only [Act.put, List.setIfInBounds_toArray, List.set_cons_zero, List.set_cons_succ]
                      refine wpT.take (v := .slice ma i mc) 3 rfl (by kernel_rfl) (fun _ _ _ h => h) rfl (fun w' _ => exec_sliceP _ _ _ _ _ rfl _ (slice_hiP w' ma ml mc i (by omega))) ?_
                      simp only [Act.put, List.setIfInBounds_toArray, List.set_cons_zero, List.set_cons_succ]
                      refine wpT.both 0 5 rfl rfl (by kernel_rfl) rfl rfl (fun K hK => ?_) (fun K hK => ?_)
                      · obtain ⟨wg, hwg⟩ : ∃ wg, wg = (wd0).alloc (.cells #[] 28) := ⟨_, rfl⟩
                        have og : Hid (Owns wg 4 (.slice (some ⟨(wd0).heap.size, 0, none⟩) 0 0) 0 []) := by rw [hwg]; exact Owns.empty _ _ _
                        have cg : Hid (Chg (fun k => wa.heap.size ≤ k) wa wg) := by rw [hwg]; exact CD.out.alloc _
                        have gz : Hid (wa.heap.size ≤ (wd0).heap.size) := CD.out.size
                        go_simp
                        rw [← hwg]
                        refine hK _ _ (by rw [hwg]; exact (Chg.refl _ _).alloc _) ?_
                        clear hK
                        try (simp only [Act.put, List.setIfInBounds_toArray, List.set_cons_zero, List.set_cons_succ])
                        refine wpT.both 4 5 rfl rfl (by kernel_rfl) rfl rfl (fun K hK => ?_) (fun K hK => ?_)
                        · refine wp_app _ _ 89 rfl 28 (.agg #[.string ⟨#[]⟩, .string ⟨#[]⟩, .int .i64 0, .int .i64 0]) 4 48 Try.underlying89 info_holdP rfl (.slice (some ⟨(wd0).heap.size, 0, none⟩) 0 0) 0 [] rfl og.out (.slice ma i mc) i ((M.flatMap Hld.cells).take (i * 4)) rfl ((Owns.front HOW.out (hi := i) (m := mc) (by omega) (by omega) (Nat.le_refl _)).reads.kept cg.out (fun k hk h => by have := HOB.out k (by rw [← hk]; cases ma <;> rfl); have h : wa.heap.size ≤ k := h; omega)) (fun u hu => HONE.out u (List.mem_of_mem_take hu)) (by simp only [maxLen]; omega) (by omega) ?_
                          intro v1 wv own1 c1 in1 _
                          rw [Nat.zero_add, List.nil_append] at own1
                          have cv : Hid (Chg (fun k => wa.heap.size ≤ k) wa wv) := cg.out.trans (c1.mono (fun k _ hk => by have := gz.out; simp [Value.ownBlock] at hk; show wa.heap.size ≤ k; omega))
                          have iv : Hid (∀ k, v1.ownBlock = some k → wa.heap.size ≤ k) := fun k hk => by
                            have h1 := gz.out
                            have h2 := cg.out.size
                            rcases in1 k hk with h | h
                            · simp [Value.ownBlock] at h; omega
                            · omega
                          obtain ⟨va1, vc1, rfl⟩ := own1.form
                          have OV := Lib.hid own1
                          refine hK _ _ (c1.mono (fun k _ hk => by have := gz.out; simp [Value.ownBlock] at hk; right; omega)) ?_
                          clear hK own1 c1 in1
                          simp only [Act.put, List.setIfInBounds_toArray, List.set_cons_zero, List.set_cons_succ]
                          refine wpT.call 5 rfl (by kernel_rfl) rfl (fun K hK => ?_)
                          refine wp_run _ _ (exec_load _ _ _ _ rfl rfl (load_sliceP (wv) ⟨q10, 0, none⟩ ma ml mc (by rw [cell_of_heap (cv.out.heap HMA.out.c10 (fun h => by have h : wa.heap.size ≤ q10 := h; omega))]; rfl))) ?_
                          refine hK _ _ (Chg.refl _ _) ?_
                          clear hK
                          simp only [Act.put, List.setIfInBounds_toArray, List.set_cons_zero, List.set_cons_succ]
                          refine wpT.take (v := pv) 8 rfl (by kernel_rfl) (fun _ _ _ h => h) rfl (fun w' _ => exec_sliceP _ _ _ _ _ rfl _ (HS8.out w')) ?_
                          simp only [Act.put, List.setIfInBounds_toArray, List.set_cons_zero, List.set_cons_succ]
                          refine wpT.call 9 rfl (by kernel_rfl) rfl (fun K hK => ?_)
                          refine wp_app _ _ 89 rfl 28 (.agg #[.string ⟨#[]⟩, .string ⟨#[]⟩, .int .i64 0, .int .i64 0]) 4 48 Try.underlying89 info_holdP rfl (.slice va1 i vc1) i ((M.flatMap Hld.cells).take (i * 4)) rfl OV.out pv (ml - (i + 1)) ((M.flatMap Hld.cells).drop ((i + 1) * 4)) rfl (HRD.out.kept cv.out (fun k hk h => by have := HPB.out k hk; have h : wa.heap.size ≤ k := h; omega)) (fun u hu => HONE.out u (List.mem_of_mem_drop hu)) (by simp only [maxLen]; omega) (by omega) ?_
                          intro v2 wz own2 c2 in2 _
                          have cz : Hid (Chg (fun k => wa.heap.size ≤ k) wa wz) := cv.out.trans (c2.mono (fun k _ hk => iv.out k hk))
                          have iz : Hid (∀ k, v2.ownBlock = some k → wa.heap.size ≤ k) := fun k hk => by
                            have h2 := cv.out.size
                            rcases in2 k hk with h | h
                            · exact iv.out k h
                            · omega
                          obtain ⟨va2, vc2, rfl⟩ := own2.form
                          have OZ := Lib.hid own2
                          refine hK _ _ (c2.mono (fun k _ hk => .inr (iv.out k hk))) ?_
                          clear hK own2 c2 in2
                          simp only [Act.put, List.setIfInBounds_toArray, List.set_cons_zero, List.set_cons_succ]
                          have h10 := cz.out.heap HMA.out.c10 (fun h => by have h : wa.heap.size ≤ q10 := h; omega)
                          refine wpT.st 10 rfl (by kernel_rfl) rfl _ _ _ rfl (by kernel_rfl) ⟨q10, 0, none⟩ rfl (.slice va2 (i + (ml - (i + 1))) vc2) rfl (.slice ma ml mc) (by rw [cell_of_heap h10]; rfl) (frozen_of_heap h10 0) rfl (.inl rfl) ?_
                          have HFIN := HFI.out wz va2 vc2 cz.out iz.out OZ.out
                          clear h10
                          refine wpT.done (by kernel_rfl) ?_
                          refine nop_normal ?_
                          go_wp2_with fail
                          go_meet
                          exact ⟨_, HFIN⟩
                        · refine wp_run _ _ (exec_load _ _ _ _ rfl rfl (load_sliceP (wg) ⟨q10, 0, none⟩ ma ml mc (by rw [cell_of_heap (cg.out.heap HMA.out.c10 (fun h => by have h : wa.heap.size ≤ q10 := h; omega))]; rfl))) ?_
                          refine hK _ _ (Chg.refl _ _) ?_
                          clear hK
                          simp only [Act.put, List.setIfInBounds_toArray, List.set_cons_zero, List.set_cons_succ]
                          refine wpT.take (v := pv) 8 rfl (by kernel_rfl) (fun _ _ _ h => h) rfl (fun w' _ => exec_sliceP _ _ _ _ _ rfl _ (HS8.out w')) ?_
                          simp only [Act.put, List.setIfInBounds_toArray, List.set_cons_zero, List.set_cons_succ]
                          refine wpT.call 4 rfl (by kernel_rfl) rfl (fun K hK => ?_)
                          refine wp_app _ _ 89 rfl 28 (.agg #[.string ⟨#[]⟩, .string ⟨#[]⟩, .int .i64 0, .int .i64 0]) 4 48 Try.underlying89 info_holdP rfl (.slice (some ⟨(wd0).heap.size, 0, none⟩) 0 0) 0 [] rfl og.out (.slice ma i mc) i ((M.flatMap Hld.cells).take (i * 4)) rfl ((Owns.front HOW.out (hi := i) (m := mc) (by omega) (by omega) (Nat.le_refl _)).reads.kept cg.out (fun k hk h => by have := HOB.out k (by rw [← hk]; cases ma <;> rfl); have h : wa.heap.size ≤ k := h; omega)) (fun u hu => HONE.out u (List.mem_of_mem_take hu)) (by simp only [maxLen]; omega) (by omega) ?_
                          intro v1 wv own1 c1 in1 _
                          rw [Nat.zero_add, List.nil_append] at own1
                          have cv : Hid (Chg (fun k => wa.heap.size ≤ k) wa wv) := cg.out.trans (c1.mono (fun k _ hk => by have := gz.out; simp [Value.ownBlock] at hk; show wa.heap.size ≤ k; omega))
                          have iv : Hid (∀ k, v1.ownBlock = some k → wa.heap.size ≤ k) := fun k hk => by
                            have h1 := gz.out
                            have h2 := cg.out.size
                            rcases in1 k hk with h | h
                            · simp [Value.ownBlock] at h; omega
                            · omega
                          obtain ⟨va1, vc1, rfl⟩ := own1.form
                          have OV := Lib.hid own1
                          refine hK _ _ (c1.mono (fun k _ hk => by have := gz.out; simp [Value.ownBlock] at hk; right; omega)) ?_
                          clear hK own1 c1 in1
                          simp only [Act.put, List.setIfInBounds_toArray, List.set_cons_zero, List.set_cons_succ]
                          refine wpT.call 9 rfl (by kernel_rfl) rfl (fun K hK => ?_)
                          refine wp_app _ _ 89 rfl 28 (.agg #[.string ⟨#[]⟩, .string ⟨#[]⟩, .int .i64 0, .int .i64 0]) 4 48 Try.underlying89 info_holdP rfl (.slice va1 i vc1) i ((M.flatMap Hld.cells).take (i * 4)) rfl OV.out pv (ml - (i + 1)) ((M.flatMap Hld.cells).drop ((i + 1) * 4)) rfl (HRD.out.kept cv.out (fun k hk h => by have := HPB.out k hk; have h : wa.heap.size ≤ k := h; omega)) (fun u hu => HONE.out u (List.mem_of_mem_drop hu)) (by simp only [maxLen]; omega) (by omega) ?_
                          intro v2 wz own2 c2 in2 _
                          have cz : Hid (Chg (fun k => wa.heap.size ≤ k) wa wz) := cv.out.trans (c2.mono (fun k _ hk => iv.out k hk))
                          have iz : Hid (∀ k, v2.ownBlock = some k → wa.heap.size ≤ k) := fun k hk => by
                            have h2 := cv.out.size
                            rcases in2 k hk with h | h
                            · exact iv.out k h
                            · omega
                          obtain ⟨va2, vc2, rfl⟩ := own2.form
                          have OZ := Lib.hid own2
                          refine hK _ _ (c2.mono (fun k _ hk => .inr (iv.out k hk))) ?_
                          clear hK own2 c2 in2
                          simp only [Act.put, List.setIfInBounds_toArray, List.set_cons_zero, List.set_cons_succ]
                          have h10 := cz.out.heap HMA.out.c10 (fun h => by have h : wa.heap.size ≤ q10 := h; omega)
                          refine wpT.st 10 rfl (by kernel_rfl) rfl _ _ _ rfl (by kernel_rfl) ⟨q10, 0, none⟩ rfl (.slice va2 (i + (ml - (i + 1))) vc2) rfl (.slice ma ml mc) (by rw [cell_of_heap h10]; rfl) (frozen_of_heap h10 0) rfl (.inl rfl) ?_
                          have HFIN := HFI.out wz va2 vc2 cz.out iz.out OZ.out
                          clear h10
                          refine wpT.done (by kernel_rfl) ?_
                          refine nop_normal ?_
                          go_wp2_with fail
                          go_meet
                          exact ⟨_, HFIN⟩
                      · refine wp_run _ _ (exec_load _ _ _ _ rfl rfl (load_sliceP (wd0) ⟨q10, 0, none⟩ ma ml mc (by rw [cell_of_heap (CD.out.heap HMA.out.c10 (fun h => by have h : wa.heap.size ≤ q10 := h; omega))]; rfl))) ?_
                        refine hK _ _ (Chg.refl _ _) ?_
                        clear hK
                        simp only [Act.put, List.setIfInBounds_toArray, List.set_cons_zero, List.set_cons_succ]
                        refine wpT.take (v := pv) 8 rfl (by kernel_rfl) (fun _ _ _ h => h) rfl (fun w' _ => exec_sliceP _ _ _ _ _ rfl _ (HS8.out w')) ?_
                        simp only [Act.put, List.setIfInBounds_toArray, List.set_cons_zero, List.set_cons_succ]
                        refine wpT.call 0 rfl (by kernel_rfl) rfl (fun K hK => ?_)
                        obtain ⟨wg, hwg⟩ : ∃ wg, wg = (wd0).alloc (.cells #[] 28) := ⟨_, rfl⟩
                        have og : Hid (Owns wg 4 (.slice (some ⟨(wd0).heap.size, 0, none⟩) 0 0) 0 []) := by rw [hwg]; exact Owns.empty _ _ _
                        have cg : Hid (Chg (fun k => wa.heap.size ≤ k) wa wg) := by rw [hwg]; exact CD.out.alloc _
                        have gz : Hid (wa.heap.size ≤ (wd0).heap.size) := CD.out.size
                        go_simp
                        rw [← hwg]
                        refine hK _ _ (by rw [hwg]; exact (Chg.refl _ _).alloc _) ?_
                        clear hK
                        try (simp only [Act.put, List.setIfInBounds_toArray, List.set_cons_zero, List.set_cons_succ])
                        refine wpT.call 4 rfl (by kernel_rfl) rfl (fun K hK => ?_)
                        refine wp_app _ _ 89 rfl 28 (.agg #[.string ⟨#[]⟩, .string ⟨#[]⟩, .int .i64 0, .int .i64 0]) 4 48 Try.underlying89 info_holdP rfl (.slice (some ⟨(wd0).heap.size, 0, none⟩) 0 0) 0 [] rfl og.out (.slice ma i mc) i ((M.flatMap Hld.cells).take (i * 4)) rfl ((Owns.front HOW.out (hi := i) (m := mc) (by omega) (by omega) (Nat.le_refl _)).reads.kept cg.out (fun k hk h => by have := HOB.out k (by rw [← hk]; cases ma <;> rfl); have h : wa.heap.size ≤ k := h; omega)) (fun u hu => HONE.out u (List.mem_of_mem_take hu)) (by simp only [maxLen]; omega) (by omega) ?_
                        intro v1 wv own1 c1 in1 _
                        rw [Nat.zero_add, List.nil_append] at own1
                        have cv : Hid (Chg (fun k => wa.heap.size ≤ k) wa wv) := cg.out.trans (c1.mono (fun k _ hk => by have := gz.out; simp [Value.ownBlock] at hk; show wa.heap.size ≤ k; omega))
                        have iv : Hid (∀ k, v1.ownBlock = some k → wa.heap.size ≤ k) := fun k hk => by
                          have h1 := gz.out
                          have h2 := cg.out.size
                          rcases in1 k hk with h | h
                          · simp [Value.ownBlock] at h; omega
                          · omega
                        obtain ⟨va1, vc1, rfl⟩ := own1.form
                        have OV := Lib.hid own1
                        refine hK _ _ (c1.mono (fun k _ hk => by have := gz.out; simp [Value.ownBlock] at hk; right; omega)) ?_
                        clear hK own1 c1 in1
                        simp only [Act.put, List.setIfInBounds_toArray, List.set_cons_zero, List.set_cons_succ]
                        refine wpT.call 9 rfl (by kernel_rfl) rfl (fun K hK => ?_)
                        refine wp_app _ _ 89 rfl 28 (.agg #[.string ⟨#[]⟩, .string ⟨#[]⟩, .int .i64 0, .int .i64 0]) 4 48 Try.underlying89 info_holdP rfl (.slice va1 i vc1) i ((M.flatMap Hld.cells).take (i * 4)) rfl OV.out pv (ml - (i + 1)) ((M.flatMap Hld.cells).drop ((i + 1) * 4)) rfl (HRD.out.kept cv.out (fun k hk h => by have := HPB.out k hk; have h : wa.heap.size ≤ k := h; omega)) (fun u hu => HONE.out u (List.mem_of_mem_drop hu)) (by simp only [maxLen]; omega) (by omega) ?_
                        intro v2 wz own2 c2 in2 _
                        have cz : Hid (Chg (fun k => wa.heap.size ≤ k) wa wz) := cv.out.trans (c2.mono (fun k _ hk => iv.out k hk))
                        have iz : Hid (∀ k, v2.ownBlock = some k → wa.heap.size ≤ k) := fun k hk => by
                          have h2 := cv.out.size
                          rcases in2 k hk with h | h
                          · exact iv.out k h
                          · omega
                        obtain ⟨va2, vc2, rfl⟩ := own2.form
                        have OZ := Lib.hid own2
                        refine hK _ _ (c2.mono (fun k _ hk => .inr (iv.out k hk))) ?_
                        clear hK own2 c2 in2
                        simp only [Act.put, List.setIfInBounds_toArray, List.set_cons_zero, List.set_cons_succ]
                        have h10 := cz.out.heap HMA.out.c10 (fun h => by have h : wa.heap.size ≤ q10 := h; omega)
                        refine wpT.st 10 rfl (by kernel_rfl) rfl _ _ _ rfl (by kernel_rfl) ⟨q10, 0, none⟩ rfl (.slice va2 (i + (ml - (i + 1))) vc2) rfl (.slice ma ml mc) (by rw [cell_of_heap h10]; rfl) (frozen_of_heap h10 0) rfl (.inl rfl) ?_
                        have HFIN := HFI.out wz va2 vc2 cz.out iz.out OZ.out
                        clear h10
                        refine wpT.done (by kernel_rfl) ?_
                        refine nop_normal ?_
                        go_wp2_with fail
                        go_meet
                        exact ⟨_, HFIN⟩
                    · refine wp_run _ _ (exec_load _ _ _ _ rfl rfl (load_sliceP (wd0) ⟨q10, 0, none⟩ ma ml mc (by rw [cell_of_heap (CD.out.heap HMA.out.c10 (fun h => by have h : wa.heap.size ≤ q10 := h; omega))]; rfl))) ?_
                      refine hK _ _ (Chg.refl _ _) ?_
                      clear hK
                      simp only [Act.put, List.setIfInBounds_toArray, List.set_cons_zero, List.set_cons_succ]
                      refine wpT.take (v := pv) 8 rfl (by kernel_rfl) (fun _ _ _ h => h) rfl (fun w' _ => exec_sliceP _ _ _ _ _ rfl _ (HS8.out w')) ?_
                      simp only [Act.put, List.setIfInBounds_toArray, List.set_cons_zero, List.set_cons_succ]
                      refine wpT.both 0 1 rfl rfl (by kernel_rfl) rfl rfl (fun K hK => ?_) (fun K hK => ?_)
                      · obtain ⟨wg, hwg⟩ : ∃ wg, wg = (wd0).alloc (.cells #[] 28) := ⟨_, rfl⟩
                        have og : Hid (Owns wg 4 (.slice (some ⟨(wd0).heap.size, 0, none⟩) 0 0) 0 []) := by rw [hwg]; exact Owns.empty _ _ _
                        have cg : Hid (Chg (fun k => wa.heap.size ≤ k) wa wg) := by rw [hwg]; exact CD.out.alloc _
                        have gz : Hid (wa.heap.size ≤ (wd0).heap.size) := CD.out.size
                        go_simp
                        rw [← hwg]
                        refine hK _ _ (by rw [hwg]; exact (Chg.refl _ _).alloc _) ?_
                        clear hK
                        try (simp only [Act.put, List.setIfInBounds_toArray, List.set_cons_zero, List.set_cons_succ])
                        refine wpT.call 1 rfl (by kernel_rfl) rfl (fun K hK => ?_)
                        refine wp_run _ _ (exec_load _ _ _ _ rfl rfl (load_sliceP (wg) ⟨q10, 0, none⟩ ma ml mc (by rw [cell_of_heap (cg.out.heap HMA.out.c10 (fun h => by have h : wa.heap.size ≤ q10 := h; omega))]; rfl))) ?_
                        refine hK _ _ (Chg.refl _ _) ?_
                        clear hK
                        simp only [Act.put, List.setIfInBounds_toArray, List.set_cons_zero, List.set_cons_succ]
                        refine wpT.take (v := .slice ma i mc) 3 rfl (by kernel_rfl) (fun _ _ _ h => h) rfl (fun w' _ => exec_sliceP _ _ _ _ _ rfl _ (slice_hiP w' ma ml mc i (by omega))) ?_
                        simp only [Act.put, List.setIfInBounds_toArray, List.set_cons_zero, List.set_cons_succ]
                        refine wpT.call 4 rfl (by kernel_rfl) rfl (fun K hK => ?_)
                        refine wp_app _ _ 89 rfl 28 (.agg #[.string ⟨#[]⟩, .string ⟨#[]⟩, .int .i64 0, .int .i64 0]) 4 48 Try.underlying89 info_holdP rfl (.slice (some ⟨(wd0).heap.size, 0, none⟩) 0 0) 0 [] rfl og.out (.slice ma i mc) i ((M.flatMap Hld.cells).take (i * 4)) rfl ((Owns.front HOW.out (hi := i) (m := mc) (by omega) (by omega) (Nat.le_refl _)).reads.kept cg.out (fun k hk h => by have := HOB.out k (by rw [← hk]; cases ma <;> rfl); have h : wa.heap.size ≤ k := h; omega)) (fun u hu => HONE.out u (List.mem_of_mem_take hu)) (by simp only [maxLen]; omega) (by omega) ?_
                        intro v1 wv own1 c1 in1 _
                        rw [Nat.zero_add, List.nil_append] at own1
                        have cv : Hid (Chg (fun k => wa.heap.size ≤ k) wa wv) := cg.out.trans (c1.mono (fun k _ hk => by have := gz.out; simp [Value.ownBlock] at hk; show wa.heap.size ≤ k; omega))
                        have iv : Hid (∀ k, v1.ownBlock = some k → wa.heap.size ≤ k) := fun k hk => by
                          have h1 := gz.out
                          have h2 := cg.out.size
                          rcases in1 k hk with h | h
                          · simp [Value.ownBlock] at h; omega
                          · omega
                        obtain ⟨va1, vc1, rfl⟩ := own1.form
                        have OV := Lib.hid own1
                        refine hK _ _ (c1.mono (fun k _ hk => by have := gz.out; simp [Value.ownBlock] at hk; right; omega)) ?_
                        clear hK own1 c1 in1
                        simp only [Act.put, List.setIfInBounds_toArray, List.set_cons_zero, List.set_cons_succ]
                        refine wpT.call 9 rfl (by kernel_rfl) rfl (fun K hK => ?_)
                        refine wp_app _ _ 89 rfl 28 (.agg #[.string ⟨#[]⟩, .string ⟨#[]⟩, .int .i64 0, .int .i64 0]) 4 48 Try.underlying89 info_holdP rfl (.slice va1 i vc1) i ((M.flatMap Hld.cells).take (i * 4)) rfl OV.out pv (ml - (i + 1)) ((M.flatMap Hld.cells).drop ((i + 1) * 4)) rfl (HRD.out.kept cv.out (fun k hk h => by have := HPB.out k hk; have h : wa.heap.size ≤ k := h; omega)) (fun u hu => HONE.out u (List.mem_of_mem_drop hu)) (by simp only [maxLen]; omega) (by omega) ?_
                        intro v2 wz own2 c2 in2 _
                        have cz : Hid (Chg (fun k => wa.heap.size ≤ k) wa wz) := cv.out.trans (c2.mono (fun k _ hk => iv.out k hk))
                        have iz : Hid (∀ k, v2.ownBlock = some k → wa.heap.size ≤ k) := fun k hk => by
                          have h2 := cv.out.size
                          rcases in2 k hk with h | h
                          · exact iv.out k h
                          · omega
                        obtain ⟨va2, vc2, rfl⟩ := own2.form
                        have OZ := Lib.hid own2
                        refine hK _ _ (c2.mono (fun k _ hk => .inr (iv.out k hk))) ?_
                        clear hK own2 c2 in2
                        simp only [Act.put, List.setIfInBounds_toArray, List.set_cons_zero, List.set_cons_succ]
                        have h10 := cz.out.heap HMA.out.c10 (fun h => by have h : wa.heap.size ≤ q10 := h; omega)
                        refine wpT.st 10 rfl (by kernel_rfl) rfl _ _ _ rfl (by kernel_rfl) ⟨q10, 0, none⟩ rfl (.slice va2 (i + (ml - (i + 1))) vc2) rfl (.slice ma ml mc) (by rw [cell_of_heap h10]; rfl) (frozen_of_heap h10 0) rfl (.inl rfl) ?_
                        have HFIN := HFI.out wz va2 vc2 cz.out iz.out OZ.out
                        clear h10
                        refine wpT.done (by kernel_rfl) ?_
                        refine nop_normal ?_
                        go_wp2_with fail
                        go_meet
                        exact ⟨_, HFIN⟩
                      · refine wp_run _ _ (exec_load _ _ _ _ rfl rfl (load_sliceP (wd0) ⟨q10, 0, none⟩ ma ml mc (by rw [cell_of_heap (CD.out.heap HMA.out.c10 (fun h => by have h : wa.heap.size ≤ q10 := h; omega))]; rfl))) ?_
                        refine hK _ _ (Chg.refl _ _) ?_
                        clear hK
                        simp only [Act.put, List.setIfInBounds_toArray, List.set_cons_zero, List.set_cons_succ]
                        refine wpT.take (v := .slice ma i mc) 3 rfl (by kernel_rfl) (fun _ _ _ h => h) rfl (fun w' _ => exec_sliceP _ _ _ _ _ rfl _ (slice_hiP w' ma ml mc i (by omega))) ?_
                        simp only [Act.put, List.setIfInBounds_toArray, List.set_cons_zero, List.set_cons_succ]
                        refine wpT.call 0 rfl (by kernel_rfl) rfl (fun K hK => ?_)
                        obtain ⟨wg, hwg⟩ : ∃ wg, wg = (wd0).alloc (.cells #[] 28) := ⟨_, rfl⟩
                        have og : Hid (Owns wg 4 (.slice (some ⟨(wd0).heap.size, 0, none⟩) 0 0) 0 []) := by rw [hwg]; exact Owns.empty _ _ _
                        have cg : Hid (Chg (fun k => wa.heap.size ≤ k) wa wg) := by rw [hwg]; exact CD.out.alloc _
                        have gz : Hid (wa.heap.size ≤ (wd0).heap.size) := CD.out.size
                        go_simp
                        rw [← hwg]
                        refine hK _ _ (by rw [hwg]; exact (Chg.refl _ _).alloc _) ?_
                        clear hK
                        try (simp only [Act.put, List.setIfInBounds_toArray, List.set_cons_zero, List.set_cons_succ])
                        refine wpT.call 4 rfl (by kernel_rfl) rfl (fun K hK => ?_)
                        refine wp_app _ _ 89 rfl 28 (.agg #[.string ⟨#[]⟩, .string ⟨#[]⟩, .int .i64 0, .int .i64 0]) 4 48 Try.underlying89 info_holdP rfl (.slice (some ⟨(wd0).heap.size, 0, none⟩) 0 0) 0 [] rfl og.out (.slice ma i mc) i ((M.flatMap Hld.cells).take (i * 4)) rfl ((Owns.front HOW.out (hi := i) (m := mc) (by omega) (by omega) (Nat.le_refl _)).reads.kept cg.out (fun k hk h => by have := HOB.out k (by rw [← hk]; cases ma <;> rfl); have h : wa.heap.size ≤ k := h; omega)) (fun u hu => HONE.out u (List.mem_of_mem_take hu)) (by simp only [maxLen]; omega) (by omega) ?_
                        intro v1 wv own1 c1 in1 _
                        rw [Nat.zero_add, List.nil_append] at own1
                        have cv : Hid (Chg (fun k => wa.heap.size ≤ k) wa wv) := cg.out.trans (c1.mono (fun k _ hk => by have := gz.out; simp [Value.ownBlock] at hk; show wa.heap.size ≤ k; omega))
                        have iv : Hid (∀ k, v1.ownBlock = some k → wa.heap.size ≤ k) := fun k hk => by
                          have h1 := gz.out
                          have h2 := cg.out.size
                          rcases in1 k hk with h | h
                          · simp [Value.ownBlock] at h; omega
                          · omega
                        obtain ⟨va1, vc1, rfl⟩ := own1.form
                        have OV := Lib.hid own1
                        refine hK _ _ (c1.mono (fun k _ hk => by have := gz.out; simp [Value.ownBlock] at hk; right; omega)) ?_
                        clear hK own1 c1 in1
                        simp only [Act.put, List.setIfInBounds_toArray, List.set_cons_zero, List.set_cons_succ]
                        refine wpT.call 9 rfl (by kernel_rfl) rfl (fun K hK => ?_)
                        refine wp_app _ _ 89 rfl 28 (.agg #[.string ⟨#[]⟩, .string ⟨#[]⟩, .int .i64 0, .int .i64 0]) 4 48 Try.underlying89 info_holdP rfl (.slice va1 i vc1) i ((M.flatMap Hld.cells).take (i * 4)) rfl OV.out pv (ml - (i + 1)) ((M.flatMap Hld.cells).drop ((i + 1) * 4)) rfl (HRD.out.kept cv.out (fun k hk h => by have := HPB.out k hk; have h : wa.heap.size ≤ k := h; omega)) (fun u hu => HONE.out u (List.mem_of_mem_drop hu)) (by simp only [maxLen]; omega) (by omega) ?_
                        intro v2 wz own2 c2 in2 _
                        have cz : Hid (Chg (fun k => wa.heap.size ≤ k) wa wz) := cv.out.trans (c2.mono (fun k _ hk => iv.out k hk))
                        have iz : Hid (∀ k, v2.ownBlock = some k → wa.heap.size ≤ k) := fun k hk => by
                          have h2 := cv.out.size
                          rcases in2 k hk with h | h
                          · exact iv.out k h
                          · omega
                        obtain ⟨va2, vc2, rfl⟩ := own2.form
                        have OZ := Lib.hid own2
                        refine hK _ _ (c2.mono (fun k _ hk => .inr (iv.out k hk))) ?_
                        clear hK own2 c2 in2
                        simp only [Act.put, List.setIfInBounds_toArray, List.set_cons_zero, List.set_cons_succ]
                        have h10 := cz.out.heap HMA.out.c10 (fun h => by have h : wa.heap.size ≤ q10 := h; omega)
                        refine wpT.st 10 rfl (by kernel_rfl) rfl _ _ _ rfl (by kernel_rfl) ⟨q10, 0, none⟩ rfl (.slice va2 (i + (ml - (i + 1))) vc2) rfl (.slice ma ml mc) (by rw [cell_of_heap h10]; rfl) (frozen_of_heap h10 0) rfl (.inl rfl) ?_
                        have HFIN := HFI.out wz va2 vc2 cz.out iz.out OZ.out
                        clear h10
                        refine wpT.done (by kernel_rfl) ?_
                        refine nop_normal ?_
                        go_wp2_with fail
                        go_meet
                        exact ⟨_, HFIN⟩
                  case rest =>
                    obtain ⟨v2, HM2, HB2⟩ := hcut
                    have hhas : Maps.has D (.string nm) = true := (hTM.out.1.has _).2 ⟨x, List.mem_of_getElem? HI.out, HX.out⟩
                    have RL := release_any wc (fun k => k = b ∨ k = mb) b D nn nm HM2.out.tab (by simp only [maxLen]; omega)
                    rw [show relCode D nm = 0 from if_pos hhas, show relTab D nm = D.del (.string nm) from if_pos hhas] at RL
                    have HRL := Lib.hid RL
                    have y130 : wc.cell? ⟨wo.heap.size + 1, 0, none⟩ = some (.string ⟨nm.toArray⟩) := by rw [cell_of_heap HB2.out]; rfl
                    have HTD : Hid (TM (D.del (.string nm)) (M.take i ++ M.drop (i + 1)) ∧ (M.take i ++ M.drop (i + 1)).length ≤ 16) := by
                      have h := hTM.out.1.del (by obtain ⟨m9, T9, _, h9, _⟩ := HMA.out.tab; exact h9.tidy strKey) HI.out
                      rw [HX.out] at h
                      exact ⟨h, by rw [List.length_append, List.length_take, List.length_drop, ← HML.out]; omega⟩
                    clear RL hhas
                    go_wp2_with fail
                    refine HRL.out.mono ?_
                    rintro e wd ⟨rfl, td, cd⟩
                    have HMD := Lib.hid (HM2.out.tabbed td cd)
                    clear td cd
                    go_wp2_with fail
                    go_meet
                    exact ⟨_, nn, _, _, by omega, HMD.out, HTD.out⟩
      case rest =>
        obtain ⟨D', nn', M', mv', hnn', hHM', hTM'⟩ := hcut
        obtain ⟨na, nc, rfl⟩ := hHM'.out.own.form
        obtain ⟨ml', hml'⟩ : ∃ m, m = M'.length := ⟨_, rfl⟩
        have HML' := Lib.hid hml'
        have hml16' : ml' ≤ 16 := by have := hTM'.out.2; omega
        have HOW' : Hid (Owns wc 4 (.slice na ml' nc) ml' (M'.flatMap Hld.cells)) := by have h := hHM'.out.own; rw [← hml'] at h; exact h
        have HMC : Hid (HM w wc w.heap.size (w.heap.size + 1) q10 b mb lo hi D' nn' M' (.slice na ml' nc) DS) := by have h := hHM'.out; rw [← hml'] at h; exact h
        clear hHM' hml'
        have q10c : wc.cell? ⟨q10, 0, none⟩ = some (.slice na ml' nc) := by rw [cell_of_heap HMC.out.c10]; rfl
        clear HMA HB12 HB13 HWA CWA HF HMO HML hml16 y0
        go_wp2_with fail
        go_loopw [20, 21, 22, 147] (fun sc sm sa i wl => ∃ (j : Nat) (c m a : Bool), j ≤ ml' ∧ i = .int .i64 j ∧ sc = .bool c ∧ sm = .bool m ∧ sa = .bool a ∧ Hid (Bs M' s at_ lo hi j c m a) ∧ Hid (Chg (fun _ => False) wc wl)) (fun _ _ _ i _ => ml' - (intOf i).toNat)
        case atStart => exact ⟨0, false, false, false, by omega, rfl, rfl, rfl, rfl, Bs.zero _ _ _ _ _, Chg.refl _ _⟩
        case round =>
          obtain ⟨j, c, m, a, hj, rfl, rfl, rfl, rfl, HBS, hC⟩ := hrel
          by_cases hjl : j < ml'
          · obtain ⟨x, hx⟩ : ∃ x, M'[j]? = some x := ⟨_, List.getElem?_eq_getElem (by rw [← HML'.out]; exact hjl)⟩
            obtain ⟨g9, o9, hma, m0, m1, m2, m3⟩ := hold_cells (HOW'.out.reads.kept hC.out (fun _ _ h => h)) HML'.out j x hx
            obtain ⟨xn, xs9, xlo, xhi⟩ := x
            simp only at m0 m1 m2 m3
            subst hma
            have HX := Lib.hid hx
            obtain ⟨wy, hwy⟩ : ∃ wy, wy = wr.alloc (.cells #[.string ⟨xn.toArray⟩, .string ⟨xs9.toArray⟩, .int .i64 xlo, .int .i64 xhi] 28) := ⟨_, rfl⟩
            have cwy : Chg (fun _ => False) wr wy := by rw [hwy]; exact (Chg.refl _ wr).alloc _
            have hby : wy.heap[wr.heap.size]? = some (.cells #[.string ⟨xn.toArray⟩, .string ⟨xs9.toArray⟩, .int .i64 xlo, .int .i64 xhi] 28 (0, 0)) := by rw [hwy]; exact heap_at_new _ _ _ rfl
            have y0 : wy.cell? ⟨wr.heap.size, 0, none⟩ = some (.string ⟨xn.toArray⟩) := by rw [cell_of_heap hby]; rfl
            have y1 : wy.cell? ⟨wr.heap.size, 1, none⟩ = some (.string ⟨xs9.toArray⟩) := by rw [cell_of_heap hby]; rfl
            have y2 : wy.cell? ⟨wr.heap.size, 2, none⟩ = some (.int .i64 xlo) := by rw [cell_of_heap hby]; rfl
            have y3 : wy.cell? ⟨wr.heap.size, 3, none⟩ = some (.int .i64 xhi) := by rw [cell_of_heap hby]; rfl
            have hR := (HMC.out.same (hC.out.trans cwy)).c7
            have r0 : wy.cell? ⟨w.heap.size, 0, none⟩ = some (.int .i64 lo) := by rw [cell_of_heap hR]; rfl
            have r1 : wy.cell? ⟨w.heap.size, 1, none⟩ = some (.int .i64 hi) := by rw [cell_of_heap hR]; rfl
            have HWY := Lib.hid hwy
            have CWY := Lib.hid (hC.out.trans cwy)
            clear hx hwy cwy hby hR
            go_upto_region 47 with fail
            rw [← HWY.out]
            go_cut [159] from 151 to 158 (fun t wx => t = .bool (skipB xs9 s) ∧ wy = wx)
            case first =>
              by_cases e0 : xs9 = []
              · subst e0
                have hA : Hid (skipB [] s = false) := rfl
                go_wp2_with fail
                go_meet
                exact ⟨by rw [hA.out], rfl⟩
              · have e1 : (xs9 == []) = false := by simpa using e0
                have e2 : xs9.isEmpty = false := by simpa using e0
                by_cases e3 : xs9 = s
                · have e4 : (xs9 == s) = true := by simpa using e3
                  have hA : Hid (skipB xs9 s = false) := by show skipB _ _ = _; unfold skipB; rw [e4]; simp
                  clear e0 e3
                  go_wp2_with fail
                  go_meet
                  exact ⟨by rw [hA.out], rfl⟩
                · have e4 : (xs9 == s) = false := by simpa using e3
                  have hA : Hid (skipB xs9 s = true) := by show skipB _ _ = _; unfold skipB; rw [e4, e2]; rfl
                  clear e0 e3
                  go_wp2_with fail
                  go_meet
                  exact ⟨by rw [hA.out], rfl⟩
            case rest =>
              obtain ⟨rfl, rfl⟩ := hcut
              by_cases hsk : skipB xs9 s = true
              · have HOF := Lib.hid ((skipB_iff ⟨xn, xs9, xlo, xhi⟩ s).1 hsk)
                rw [hsk]
                clear hsk
                go_wp2_with fail
                exact ⟨⟨j + 1, c, m, a, by omega, rfl, rfl, rfl, rfl, HBS.out.skip HX.out HOF.out, CWY.out⟩, by simp only [intOf]; omega⟩
              · have hsk' : skipB xs9 s = false := by simpa using hsk
                have HOF : Hid (Hld.of ⟨xn, xs9, xlo, xhi⟩ s) := Classical.byContradiction fun h => hsk ((skipB_iff ⟨xn, xs9, xlo, xhi⟩ s).2 h)
                rw [hsk']
                clear hsk hsk'
                obtain ⟨mx, hmx⟩ : ∃ mx, mx = max xlo lo := ⟨_, rfl⟩
                have HMX := Lib.hid hmx
                have hmi : (if xlo < lo then lo else xlo) = mx := by rw [hmx]; split <;> omega
                have hmx1 : mx ≤ max xlo lo := by omega
                have hmx2 : max xlo lo ≤ mx := by omega
                clear hmx
                as_aux_lemma =>
                cases c
                · by_cases c1 : xlo ≤ at_
                  · by_cases c2 : at_ < xhi
                    · have HCC : Hid (true = true ↔ (false = true ∨ (xlo ≤ at_ ∧ at_ < xhi))) := iff_of_true rfl (.inr ⟨c1, c2⟩)
                      cases m
                      · by_cases m1 : mx < xhi
                        · by_cases m2 : mx < hi
                          · have HMM : Hid (true = true ↔ (false = true ∨ (max xlo lo < xhi ∧ max xlo lo < hi))) := iff_of_true rfl (.inr ⟨by rw [← HMX.out]; exact m1, by rw [← HMX.out]; exact m2⟩)
                            go_wp2_with fail
                            exact ⟨⟨j + 1, true, true, true, by omega, rfl, rfl, (by first | rfl | exact congrArg Value.bool (decide_eq_true (by omega)) | exact congrArg Value.bool (decide_eq_false (by omega))), rfl, HBS.out.step HX.out HOF.out HCC.out HMM.out, CWY.out⟩, by simp only [intOf]; omega⟩
                          · have HMM : Hid (false = true ↔ (false = true ∨ (max xlo lo < xhi ∧ max xlo lo < hi))) := iff_of_false (by simp) (fun h => h.elim (by simp) (fun h => m2 (by rw [HMX.out]; exact h.2)))
                            go_wp2_with fail
                            exact ⟨⟨j + 1, true, false, true, by omega, rfl, rfl, (by first | rfl | exact congrArg Value.bool (decide_eq_true (by omega)) | exact congrArg Value.bool (decide_eq_false (by omega))), rfl, HBS.out.step HX.out HOF.out HCC.out HMM.out, CWY.out⟩, by simp only [intOf]; omega⟩
                        · have HMM : Hid (false = true ↔ (false = true ∨ (max xlo lo < xhi ∧ max xlo lo < hi))) := iff_of_false (by simp) (fun h => h.elim (by simp) (fun h => m1 (by rw [HMX.out]; exact h.1)))
                          go_wp2_with fail
                          exact ⟨⟨j + 1, true, false, true, by omega, rfl, rfl, (by first | rfl | exact congrArg Value.bool (decide_eq_true (by omega)) | exact congrArg Value.bool (decide_eq_false (by omega))), rfl, HBS.out.step HX.out HOF.out HCC.out HMM.out, CWY.out⟩, by simp only [intOf]; omega⟩
                      · have HMM : Hid (true = true ↔ (true = true ∨ (max xlo lo < xhi ∧ max xlo lo < hi))) := iff_of_true rfl (.inl rfl)
                        go_wp2_with fail
                        exact ⟨⟨j + 1, true, true, true, by omega, rfl, rfl, (by first | rfl | exact congrArg Value.bool (decide_eq_true (by omega)) | exact congrArg Value.bool (decide_eq_false (by omega))), rfl, HBS.out.step HX.out HOF.out HCC.out HMM.out, CWY.out⟩, by simp only [intOf]; omega⟩
                    · have HCC : Hid (false = true ↔ (false = true ∨ (xlo ≤ at_ ∧ at_ < xhi))) := iff_of_false (by simp) (fun h => h.elim (by simp) (fun h => c2 h.2))
                      cases m
                      · by_cases m1 : mx < xhi
                        · by_cases m2 : mx < hi
                          · have HMM : Hid (true = true ↔ (false = true ∨ (max xlo lo < xhi ∧ max xlo lo < hi))) := iff_of_true rfl (.inr ⟨by rw [← HMX.out]; exact m1, by rw [← HMX.out]; exact m2⟩)
                            go_wp2_with fail
                            exact ⟨⟨j + 1, false, true, true, by omega, rfl, rfl, (by first | rfl | exact congrArg Value.bool (decide_eq_true (by omega)) | exact congrArg Value.bool (decide_eq_false (by omega))), rfl, HBS.out.step HX.out HOF.out HCC.out HMM.out, CWY.out⟩, by simp only [intOf]; omega⟩
                          · have HMM : Hid (false = true ↔ (false = true ∨ (max xlo lo < xhi ∧ max xlo lo < hi))) := iff_of_false (by simp) (fun h => h.elim (by simp) (fun h => m2 (by rw [HMX.out]; exact h.2)))
                            go_wp2_with fail
                            exact ⟨⟨j + 1, false, false, true, by omega, rfl, rfl, (by first | rfl | exact congrArg Value.bool (decide_eq_true (by omega)) | exact congrArg Value.bool (decide_eq_false (by omega))), rfl, HBS.out.step HX.out HOF.out HCC.out HMM.out, CWY.out⟩, by simp only [intOf]; omega⟩
                        · have HMM : Hid (false = true ↔ (false = true ∨ (max xlo lo < xhi ∧ max xlo lo < hi))) := iff_of_false (by simp) (fun h => h.elim (by simp) (fun h => m1 (by rw [HMX.out]; exact h.1)))
                          go_wp2_with fail
                          exact ⟨⟨j + 1, false, false, true, by omega, rfl, rfl, (by first | rfl | exact congrArg Value.bool (decide_eq_true (by omega)) | exact congrArg Value.bool (decide_eq_false (by omega))), rfl, HBS.out.step HX.out HOF.out HCC.out HMM.out, CWY.out⟩, by simp only [intOf]; omega⟩
                      · have HMM : Hid (true = true ↔ (true = true ∨ (max xlo lo < xhi ∧ max xlo lo < hi))) := iff_of_true rfl (.inl rfl)
                        go_wp2_with fail
                        exact ⟨⟨j + 1, false, true, true, by omega, rfl, rfl, (by first | rfl | exact congrArg Value.bool (decide_eq_true (by omega)) | exact congrArg Value.bool (decide_eq_false (by omega))), rfl, HBS.out.step HX.out HOF.out HCC.out HMM.out, CWY.out⟩, by simp only [intOf]; omega⟩
                  · have HCC : Hid (false = true ↔ (false = true ∨ (xlo ≤ at_ ∧ at_ < xhi))) := iff_of_false (by simp) (fun h => h.elim (by simp) (fun h => c1 h.1))
                    cases m
                    · by_cases m1 : mx < xhi
                      · by_cases m2 : mx < hi
                        · have HMM : Hid (true = true ↔ (false = true ∨ (max xlo lo < xhi ∧ max xlo lo < hi))) := iff_of_true rfl (.inr ⟨by rw [← HMX.out]; exact m1, by rw [← HMX.out]; exact m2⟩)
                          go_wp2_with fail
                          exact ⟨⟨j + 1, false, true, true, by omega, rfl, rfl, (by first | rfl | exact congrArg Value.bool (decide_eq_true (by omega)) | exact congrArg Value.bool (decide_eq_false (by omega))), rfl, HBS.out.step HX.out HOF.out HCC.out HMM.out, CWY.out⟩, by simp only [intOf]; omega⟩
                        · have HMM : Hid (false = true ↔ (false = true ∨ (max xlo lo < xhi ∧ max xlo lo < hi))) := iff_of_false (by simp) (fun h => h.elim (by simp) (fun h => m2 (by rw [HMX.out]; exact h.2)))
                          go_wp2_with fail
                          exact ⟨⟨j + 1, false, false, true, by omega, rfl, rfl, (by first | rfl | exact congrArg Value.bool (decide_eq_true (by omega)) | exact congrArg Value.bool (decide_eq_false (by omega))), rfl, HBS.out.step HX.out HOF.out HCC.out HMM.out, CWY.out⟩, by simp only [intOf]; omega⟩
                      · have HMM : Hid (false = true ↔ (false = true ∨ (max xlo lo < xhi ∧ max xlo lo < hi))) := iff_of_false (by simp) (fun h => h.elim (by simp) (fun h => m1 (by rw [HMX.out]; exact h.1)))
                        go_wp2_with fail
                        exact ⟨⟨j + 1, false, false, true, by omega, rfl, rfl, (by first | rfl | exact congrArg Value.bool (decide_eq_true (by omega)) | exact congrArg Value.bool (decide_eq_false (by omega))), rfl, HBS.out.step HX.out HOF.out HCC.out HMM.out, CWY.out⟩, by simp only [intOf]; omega⟩
                    · have HMM : Hid (true = true ↔ (true = true ∨ (max xlo lo < xhi ∧ max xlo lo < hi))) := iff_of_true rfl (.inl rfl)
                      go_wp2_with fail
                      exact ⟨⟨j + 1, false, true, true, by omega, rfl, rfl, (by first | rfl | exact congrArg Value.bool (decide_eq_true (by omega)) | exact congrArg Value.bool (decide_eq_false (by omega))), rfl, HBS.out.step HX.out HOF.out HCC.out HMM.out, CWY.out⟩, by simp only [intOf]; omega⟩
                · have HCC : Hid (true = true ↔ (true = true ∨ (xlo ≤ at_ ∧ at_ < xhi))) := iff_of_true rfl (.inl rfl)
                  cases m
                  · by_cases m1 : mx < xhi
                    · by_cases m2 : mx < hi
                      · have HMM : Hid (true = true ↔ (false = true ∨ (max xlo lo < xhi ∧ max xlo lo < hi))) := iff_of_true rfl (.inr ⟨by rw [← HMX.out]; exact m1, by rw [← HMX.out]; exact m2⟩)
                        go_wp2_with fail
                        exact ⟨⟨j + 1, true, true, true, by omega, rfl, rfl, (by first | rfl | exact congrArg Value.bool (decide_eq_true (by omega)) | exact congrArg Value.bool (decide_eq_false (by omega))), rfl, HBS.out.step HX.out HOF.out HCC.out HMM.out, CWY.out⟩, by simp only [intOf]; omega⟩
                      · have HMM : Hid (false = true ↔ (false = true ∨ (max xlo lo < xhi ∧ max xlo lo < hi))) := iff_of_false (by simp) (fun h => h.elim (by simp) (fun h => m2 (by rw [HMX.out]; exact h.2)))
                        go_wp2_with fail
                        exact ⟨⟨j + 1, true, false, true, by omega, rfl, rfl, (by first | rfl | exact congrArg Value.bool (decide_eq_true (by omega)) | exact congrArg Value.bool (decide_eq_false (by omega))), rfl, HBS.out.step HX.out HOF.out HCC.out HMM.out, CWY.out⟩, by simp only [intOf]; omega⟩
                    · have HMM : Hid (false = true ↔ (false = true ∨ (max xlo lo < xhi ∧ max xlo lo < hi))) := iff_of_false (by simp) (fun h => h.elim (by simp) (fun h => m1 (by rw [HMX.out]; exact h.1)))
                      go_wp2_with fail
                      exact ⟨⟨j + 1, true, false, true, by omega, rfl, rfl, (by first | rfl | exact congrArg Value.bool (decide_eq_true (by omega)) | exact congrArg Value.bool (decide_eq_false (by omega))), rfl, HBS.out.step HX.out HOF.out HCC.out HMM.out, CWY.out⟩, by simp only [intOf]; omega⟩
                  · have HMM : Hid (true = true ↔ (true = true ∨ (max xlo lo < xhi ∧ max xlo lo < hi))) := iff_of_true rfl (.inl rfl)
                    go_wp2_with fail
                    exact ⟨⟨j + 1, true, true, true, by omega, rfl, rfl, (by first | rfl | exact congrArg Value.bool (decide_eq_true (by omega)) | exact congrArg Value.bool (decide_eq_false (by omega))), rfl, HBS.out.step HX.out HOF.out HCC.out HMM.out, CWY.out⟩, by simp only [intOf]; omega⟩
          · obtain rfl : j = ml' := by omega
            have HMR := Lib.hid (HMC.out.same hC.out)
            obtain ⟨hc0, hm0, ha0⟩ := hTM'.out.1.seen HBS.out HML'.out
            have HC0 := Lib.hid hc0
            have HM9 := Lib.hid hm0
            have HA9 := Lib.hid ha0
            clear hc0 hm0 ha0 q10c
            go_upto_region 53 with fail
            go_cut [223] from 196 to 222 (fun t wx => t = .bool false ∧ Hid (Chg (fun _ => False) wr wx))
            case first =>
              as_aux_lemma =>
              refine nop ?_
              refine wpT.begin (fun _ => False) 28 (by kernel_rfl) rfl ?_
              obtain ⟨ws, hws⟩ : ∃ x, x = wr.drew := ⟨_, rfl⟩
              rw [← hws]
              have CS : Hid (Chg (fun _ => False) wr ws) := by rw [hws]; exact (Chg.refl _ wr).drew
              have HMS := Lib.hid (HMR.out.same CS.out)
              clear hws
              refine wpT.take 0 rfl (by kernel_rfl) (fun _ _ _ h => h) rfl (fun w' hw' => by go_simp <;> with_reducible rfl) ?_
              simp only [Act.put, List.setIfInBounds_toArray, List.set_cons_zero, List.set_cons_succ]
              refine wpT.take 1 rfl (by kernel_rfl) (fun _ _ _ h => h) rfl (fun w' hw' => by go_simp <;> with_reducible rfl) ?_
              simp only [Act.put, List.setIfInBounds_toArray, List.set_cons_zero, List.set_cons_succ]
              refine wpT.take 2 rfl (by kernel_rfl) (fun _ _ _ h => h) rfl (fun w' hw' => by go_simp <;> with_reducible rfl) ?_
              simp only [Act.put, List.setIfInBounds_toArray, List.set_cons_zero, List.set_cons_succ]
              refine wpT.take 4 rfl (by kernel_rfl) (fun _ _ _ h => h) rfl (fun w' hw' => by go_simp <;> with_reducible rfl) ?_
              simp only [Act.put, List.setIfInBounds_toArray, List.set_cons_zero, List.set_cons_succ]
              refine wpT.call 3 rfl (by kernel_rfl) rfl (fun K hK => ?_)
              go_wp2_with fail
              refine (covers_any ws (fun k => k = b ∨ k = mb) b D' nn' s at_ (HMS.out.same (Chg.refl _ _)).tab).mono ?_
              rintro e w1a ⟨r1, rfl, hr1, ca1⟩
              obtain rfl : r1 = c := Bool.eq_iff_iff.2 (hr1.trans HC0.out.symm)
              have CA1 := Lib.hid ca1
              have HM1 := Lib.hid (HMS.out.same ca1)
              refine hK _ _ ca1 ?_
              clear hK hr1 ca1
              try (simp only [Act.put, List.setIfInBounds_toArray, List.set_cons_zero, List.set_cons_succ])
              refine wpT.take (v := .bool false) 5 rfl (by kernel_rfl) (fun _ _ _ h => h) rfl (fun w' hw' => by go_simp <;> first | with_reducible rfl | simp) ?_
              simp only [Act.put, List.setIfInBounds_toArray, List.set_cons_zero, List.set_cons_succ]
              refine wpT.take 6 rfl (by kernel_rfl) (fun _ _ _ h => h) rfl (fun w' hw' => by go_simp <;> with_reducible rfl) ?_
              simp only [Act.put, List.setIfInBounds_toArray, List.set_cons_zero, List.set_cons_succ]
              refine wpT.take 7 rfl (by kernel_rfl) (fun _ _ _ h => h) rfl (fun w' hw' => by go_simp <;> with_reducible rfl) ?_
              simp only [Act.put, List.setIfInBounds_toArray, List.set_cons_zero, List.set_cons_succ]
              refine wpT.take 8 rfl (by kernel_rfl) (fun _ _ _ h => h) rfl (fun w' hw' => by go_simp <;> with_reducible rfl) ?_
              simp only [Act.put, List.setIfInBounds_toArray, List.set_cons_zero, List.set_cons_succ]
              refine wpT.ldA 9 rfl (by kernel_rfl) (fun _ _ _ _ h => h) rfl _ _ rfl _ Try.underlying24 rfl w.heap.size rfl [.int .i64 lo, .int .i64 hi] (by kernel_rfl) _ _ HM1.out.c7 (fun h => h) ?_
              simp only [Act.put, List.setIfInBounds_toArray, List.set_cons_zero, List.set_cons_succ]
              refine wpT.take 11 rfl (by kernel_rfl) (fun _ _ _ h => h) rfl (fun w' hw' => by go_simp <;> with_reducible rfl) ?_
              simp only [Act.put, List.setIfInBounds_toArray, List.set_cons_zero, List.set_cons_succ]
              refine wpT.call 10 rfl (by kernel_rfl) rfl (fun K hK => ?_)
              go_wp2_with fail
              refine (meets_any w1a (fun k => k = b ∨ k = mb) b D' nn' s lo hi HM1.out.tab).mono ?_
              rintro e w2a ⟨r2, rfl, hr2, ca2⟩
              obtain rfl : r2 = m := Bool.eq_iff_iff.2 (hr2.trans HM9.out.symm)
              have CA2 := Lib.hid (CA1.out.trans ca2)
              have HM2 := Lib.hid (HM1.out.same ca2)
              refine hK _ _ ca2 ?_
              clear hK hr2 ca2
              try (simp only [Act.put, List.setIfInBounds_toArray, List.set_cons_zero, List.set_cons_succ])
              refine wpT.take (v := .bool false) 12 rfl (by kernel_rfl) (fun _ _ _ h => h) rfl (fun w' hw' => by go_simp <;> first | with_reducible rfl | simp) ?_
              simp only [Act.put, List.setIfInBounds_toArray, List.set_cons_zero, List.set_cons_succ]
              refine wpT.take 13 rfl (by kernel_rfl) (fun _ _ _ h => h) rfl (fun w' hw' => by go_simp <;> with_reducible rfl) ?_
              simp only [Act.put, List.setIfInBounds_toArray, List.set_cons_zero, List.set_cons_succ]
              refine wpT.take 14 rfl (by kernel_rfl) (fun _ _ _ h => h) rfl (fun w' hw' => by go_simp <;> with_reducible rfl) ?_
              simp only [Act.put, List.setIfInBounds_toArray, List.set_cons_zero, List.set_cons_succ]
              refine wpT.take 15 rfl (by kernel_rfl) (fun _ _ _ h => h) rfl (fun w' hw' => by go_simp <;> with_reducible rfl) ?_
              simp only [Act.put, List.setIfInBounds_toArray, List.set_cons_zero, List.set_cons_succ]
              refine wpT.take 16 rfl (by kernel_rfl) (fun _ _ _ h => h) rfl (fun w' hw' => by go_simp <;> with_reducible rfl) ?_
              simp only [Act.put, List.setIfInBounds_toArray, List.set_cons_zero, List.set_cons_succ]
              refine wpT.take 18 rfl (by kernel_rfl) (fun _ _ _ h => h) rfl (fun w' hw' => by go_simp <;> with_reducible rfl) ?_
              simp only [Act.put, List.setIfInBounds_toArray, List.set_cons_zero, List.set_cons_succ]
              refine wpT.call 17 rfl (by kernel_rfl) rfl (fun K hK => ?_)
              go_wp2_with fail
              refine (any_any w2a (fun k => k = b ∨ k = mb) b D' nn' s HM2.out.tab).mono ?_
              rintro e w3a ⟨r3, rfl, hr3, ca3⟩
              obtain rfl : r3 = a := Bool.eq_iff_iff.2 (hr3.trans HA9.out.symm)
              have CA3 := Lib.hid (CA2.out.trans ca3)
              have HM3 := Lib.hid (HM2.out.same ca3)
              refine hK _ _ ca3 ?_
              clear hK hr3 ca3
              try (simp only [Act.put, List.setIfInBounds_toArray, List.set_cons_zero, List.set_cons_succ])
              refine wpT.take (v := .bool false) 19 rfl (by kernel_rfl) (fun _ _ _ h => h) rfl (fun w' hw' => by go_simp <;> first | with_reducible rfl | simp) ?_
              simp only [Act.put, List.setIfInBounds_toArray, List.set_cons_zero, List.set_cons_succ]
              refine wpT.take 20 rfl (by kernel_rfl) (fun _ _ _ h => h) rfl (fun w' hw' => by go_simp <;> with_reducible rfl) ?_
              simp only [Act.put, List.setIfInBounds_toArray, List.set_cons_zero, List.set_cons_succ]
              refine wpT.take 21 rfl (by kernel_rfl) (fun _ _ _ h => h) rfl (fun w' hw' => by go_simp <;> with_reducible rfl) ?_
              simp only [Act.put, List.setIfInBounds_toArray, List.set_cons_zero, List.set_cons_succ]
              refine wpT.take 22 rfl (by kernel_rfl) (fun _ _ _ h => h) rfl (fun w' hw' => by go_simp <;> with_reducible rfl) ?_
              simp only [Act.put, List.setIfInBounds_toArray, List.set_cons_zero, List.set_cons_succ]
              refine wpT.ld 24 rfl (by kernel_rfl) (fun _ _ _ _ h => h) rfl _ _ rfl (by kernel_rfl) ⟨q10, 0, none⟩ rfl _ (by rw [cell_of_heap HM3.out.c10]; rfl) (fun h => h) ?_
              simp only [Act.put, List.setIfInBounds_toArray, List.set_cons_zero, List.set_cons_succ]
              refine wpT.take 25 rfl (by kernel_rfl) (fun _ _ _ h => h) rfl (fun w' hw' => by go_simp <;> with_reducible rfl) ?_
              simp only [Act.put, List.setIfInBounds_toArray, List.set_cons_zero, List.set_cons_succ]
              refine wpT.call 23 rfl (by kernel_rfl) rfl (fun K hK => ?_)
              go_wp2_with fail
              refine (hlen_any w3a (fun k => k = b ∨ k = mb) b D' nn' HM3.out.tab).mono ?_
              rintro e w' ⟨rfl, rfl⟩
              have hsz : Maps.size D' = j := by rw [hTM'.out.1.size, ← HML'.out]
              rw [hsz]
              refine hK _ _ (Chg.refl _ _) ?_
              clear hK hsz
              try (simp only [Act.put, List.setIfInBounds_toArray, List.set_cons_zero, List.set_cons_succ])
              refine wpT.take (v := .bool false) 26 rfl (by kernel_rfl) (fun _ _ _ h => h) rfl (fun w' hw' => by go_simp <;> first | with_reducible rfl | simp) ?_
              simp only [Act.put, List.setIfInBounds_toArray, List.set_cons_zero, List.set_cons_succ]
              refine wpT.take 27 rfl (by kernel_rfl) (fun _ _ _ h => h) rfl (fun w' hw' => by go_simp <;> with_reducible rfl) ?_
              simp only [Act.put, List.setIfInBounds_toArray, List.set_cons_zero, List.set_cons_succ]
              refine wpT.done (by kernel_rfl) ?_
              refine nop_normal ?_
              go_wp2_with fail
              go_meet
              exact ⟨rfl, CS.out.trans CA3.out⟩
            case rest =>
              obtain ⟨rfl, hC2⟩ := hcut
              have HMX2 := Lib.hid (HMR.out.same hC2.out)
              go_wp2_with fail
              refine (nall (some ⟨b, 0, none⟩) _).mono ?_
              rintro e w5 ⟨rfl, hw5⟩
              go_wp2_with fail
              refine (wpIn_wide (n := 6)).1 ?_
              rw [← hw5]
              obtain ⟨bl, hbl⟩ : ∃ x, x = wc.heap.size := ⟨_, rfl⟩
              obtain ⟨bn, hbn⟩ : ∃ x, x = wc.heap.size + 1 := ⟨_, rfl⟩
              obtain ⟨Bq, hBq⟩ : ∃ x, x = wc.heap.size + 1 + 1 := ⟨_, rfl⟩
              have hz5 : w5.heap.size = wc.heap.size + 3 := by rw [hw5]; simp
              have c5 : Chg (fun _ => False) wc w5 := by rw [hw5]; exact (((Chg.refl _ wc).alloc _).alloc _).alloc _
              have g0 : w5.heap[wc.heap.size]? = some (.cells #[.string ⟨([] : List UInt8).toArray⟩] 9 (0, 0)) := by rw [hw5]; exact (((Chg.refl (fun _ => False) _).alloc _).alloc _).heap (heap_at_new wc _ _ rfl) (fun h => h)
              have g1 : w5.heap[wc.heap.size + 1]? = some (.cells #[.int .i64 0] 3 (0, 0)) := by rw [hw5]; exact ((Chg.refl (fun _ => False) _).alloc _).heap (heap_at_new _ _ _ (by simp)) (fun h => h)
              have g2 : w5.heap[wc.heap.size + 1 + 1]? = some (.cells #[.pointer (some ⟨b, 0, none⟩)] 87 (0, 0)) := by rw [hw5]; exact heap_at_new _ _ _ (by simp)
              have hBq2 : Bq = wc.heap.size + 2 := by omega
              first | rw [← hBq] | rw [← hBq2]
              rw [← hbn, ← hbl]
              clear hBq2
              rw [← hbl] at g0
              rw [← hbn] at g1
              rw [← hBq] at g2
              have G0 := Lib.hid g0
              have G1 := Lib.hid g1
              have ORD : Hid (bl = wc.heap.size ∧ bn = wc.heap.size + 1 ∧ Bq = wc.heap.size + 2 ∧ w5.heap.size = wc.heap.size + 3) := ⟨hbl, hbn, by omega, hz5⟩
              have C5 := Lib.hid c5
              have gq : w5.cell? ⟨Bq, 0, none⟩ = some (.pointer (some ⟨b, 0, none⟩)) := by rw [cell_of_heap g2]; rfl
              have HM5 := Lib.hid (HMX2.out.same c5)
              obtain ⟨xs0, hh0, hlen0, hmem0, hpw0, hkl0, hk16⟩ : ∃ xs : List Hld, Holds D' ((strKeys D').mergeSort leB) xs ∧ xs.length = M'.length ∧ (∀ x ∈ xs, x ∈ M') ∧ xs.Pairwise (fun a b => ¬ b.name ≤ a.name) ∧ (strKeys D').length = M'.length ∧ ∀ s ∈ strKeys D', s.length ≤ 16 := by
                obtain ⟨m9, T9, _, h9, _⟩ := HM5.out.tab
                exact hTM'.out.1.told h9
              obtain ⟨xs, hxs⟩ : ∃ xs : List {x // x ∈ M'}, xs.map Subtype.val = xs0 := ⟨xs0.attach.map (fun y => ⟨y.1, hmem0 y.1 y.2⟩), by rw [List.map_map]; simp⟩
              subst hxs
              have HPW := Lib.hid hpw0
              have HLN : Hid (xs.length = M'.length) := by show _ = _; rw [← hlen0, List.length_map]
              have hlt9 := HMX2.out.lt
              have hm5 : M'.length ≤ 16 := hTM'.out.2
              have hstops := all1_stops (α := {x // x ∈ M'}) Subtype.val xs D' 5 (by omega) Bq b nn' (fun k => k = b ∨ k = mb) (fun q => q = bl ∨ q = bn) hh0 (by omega) (by rw [hTM'.out.1.size]; omega) (fun s hs => by have := hk16 s hs; simp only [maxLen]; omega) w5 gq HM5.out.tab (fun k hk h => by have := ORD.out; rcases hk with hk | hk <;> rcases h with h | h <;> omega) (fun h => by have := ORD.out; omega)
              have HKL16 : Hid ((strKeys D').length ≤ 16) := by show _ ≤ _; omega
              clear hbl hbn hBq hz5 c5 g0 g1 g2 gq hw5 hh0 hlen0 hmem0 hpw0 hkl0 hk16 hlt9 hm5
              refine wpIn_rangeFunc_ownH (α := {x // x ∈ M'}) rfl h1 (gf := 95) (lb := #[.pointer (some ⟨Bq, 0, none⟩)]) rfl trivial (enters_of Try.func95 (by kernel_rfl) rfl)
                hstops keepB_t keepB_b (Below.refl _ _) (fun _ => rfl)
                (fun pre W => W.heap[bl]? = some (.cells #[.string ⟨(lastN (pre.map Subtype.val)).toArray⟩] 9 (0, 0)) ∧ W.heap[bn]? = some (.cells #[.int .i64 (pre.length : Nat)] 3 (0, 0)) ∧ Chg (fun q => q = bl ∨ q = bn) w5 W)
                (fun _ pre _ => ¬ (pre.map Subtype.val).Pairwise (fun (a b : Hld) => ¬ b.name ≤ a.name))
                (fun s A B row hs hg hr => ⟨(Chg.of_grownBy hg).heap hs.1 ((NoCells.of_row hr).notB hs.1), (Chg.of_grownBy hg).heap hs.2.1 ((NoCells.of_row hr).notB hs.2.1), hs.2.2.trans' (Chg.of_grownBy hg) (fun i hi hs => by have := (hr i hs).1; omega)⟩)
                (fun c s A B row hs hg hr => hs)
                ⟨G0.out, G1.out, Chg.refl _ _⟩
                (fun x a' W => ∃ (Bx : Nat) (z0 z1 z2 z3 z4 z5 z6 z7 z9 z11 z12 z13 z14 z15 z16 z17 z18 z19 z20 z21 z22 z23 z24 z25 z29 z30 z31 z32 z33 z34 z35 z36 z37 z38 z39 z40 z41 z42 z43 z44 z45 z46 z47 z48 z49 z50 z51 z52 z53 z54 z55 z56 z57 z58 z59 z60 z61 z62 z63 z64 z65 z66 z67 z68 z69 z70 z71 z72 z73 z74 z75 z76 z77 z78 z79 z80 z81 z82 z83 z84 z85 z86 z87 z88 z89 z90 z91 z92 z93 z94 z95 z96 z97 z98 z99 z100 z101 z102 z103 z104 z105 z106 z107 z108 z109 z110 z111 z112 z113 z114 z115 z116 z117 z118 z119 z120 z121 z122 z123 z124 z125 z126 z127 z128 z129 z130 z131 z132 z133 z134 z135 z136 z137 z138 z139 z140 z141 z142 z143 z144 z145 z146 z147 z148 z149 z150 z151 z152 z153 z154 z155 z156 z157 z158 z159 z160 z161 z162 z163 z164 z165 z166 z167 z168 z169 z170 z171 z172 z173 z174 z175 z176 z177 z178 z179 z180 z181 z182 z183 z184 z185 z186 z187 z188 z189 z190 z191 z192 z193 z194 z195 z196 z197 z198 z199 z200 z201 z202 z203 z204 z205 z206 z207 z208 z209 z210 z211 z212 z213 z214 z215 z216 z217 z218 z219 z220 z221 z222 z223 z224 z225 z226 z227 z228 z229 z230 z231 z232 z233 z234 z235 z236 z237 z238 z239 z240 z241 z242 z243 z244 z245 z246 z247 z248 z249 z250 z251 z252 z253 z254 z255 : Value), Hid (w5.heap.size ≤ Bx ∧ W.heap[Bx]? = some (.cells #[.string ⟨x.1.name.toArray⟩, .string ⟨x.1.series.toArray⟩, .int .i64 x.1.lo, .int .i64 x.1.hi] 28 (0, 0))) ∧ a' = ⟨#[z0, z1, z2, z3, z4, z5, z6, z7, Value.pointer (some ⟨w.heap.size + 1, 0, none⟩), z9, Value.pointer (some ⟨q10, 0, none⟩), z11, z12, z13, z14, z15, z16, z17, z18, z19, z20, z21, z22, z23, z24, z25, Value.pointer (some ⟨bl, 0, none⟩), Value.pointer (some ⟨bn, 0, none⟩), Value.pointer (some ⟨Bx, 0, none⟩), z29, z30, z31, z32, z33, z34, z35, z36, z37, z38, z39, z40, z41, z42, z43, z44, z45, z46, z47, z48, z49, z50, z51, z52, z53, z54, z55, z56, z57, z58, z59, z60, z61, z62, z63, z64, z65, z66, z67, z68, z69, z70, z71, z72, z73, z74, z75, z76, z77, z78, z79, z80, z81, z82, z83, z84, z85, z86, z87, z88, z89, z90, z91, z92, z93, z94, z95, z96, z97, z98, z99, z100, z101, z102, z103, z104, z105, z106, z107, z108, z109, z110, z111, z112, z113, z114, z115, z116, z117, z118, z119, z120, z121, z122, z123, z124, z125, z126, z127, z128, z129, z130, z131, z132, z133, z134, z135, z136, z137, z138, z139, z140, z141, z142, z143, z144, z145, z146, z147, z148, z149, z150, z151, z152, z153, z154, z155, z156, z157, z158, z159, z160, z161, z162, z163, z164, z165, z166, z167, z168, z169, z170, z171, z172, z173, z174, z175, z176, z177, z178, z179, z180, z181, z182, z183, z184, z185, z186, z187, z188, z189, z190, z191, z192, z193, z194, z195, z196, z197, z198, z199, z200, z201, z202, z203, z204, z205, z206, z207, z208, z209, z210, z211, z212, z213, z214, z215, z216, z217, z218, z219, z220, z221, z222, z223, z224, z225, z226, z227, z228, z229, z230, z231, z232, z233, z234, z235, z236, z237, z238, z239, z240, z241, z242, z243, z244, z245, z246, z247, z248, z249, z250, z251, z252, z253, z254, z255], []⟩)
                (fun x a' s A B row hs hg hr => by
                  obtain ⟨Bx, hA⟩ := hs
                  obtain ⟨z0, hA⟩ := hA
                  obtain ⟨z1, hA⟩ := hA
                  obtain ⟨z2, hA⟩ := hA
                  obtain ⟨z3, hA⟩ := hA
                  obtain ⟨z4, hA⟩ := hA
                  obtain ⟨z5, hA⟩ := hA
                  obtain ⟨z6, hA⟩ := hA
                  obtain ⟨z7, hA⟩ := hA
                  obtain ⟨z9, hA⟩ := hA
                  obtain ⟨z11, hA⟩ := hA
                  obtain ⟨z12, hA⟩ := hA
                  obtain ⟨z13, hA⟩ := hA
                  obtain ⟨z14, hA⟩ := hA
                  obtain ⟨z15, hA⟩ := hA
                  obtain ⟨z16, hA⟩ := hA
                  obtain ⟨z17, hA⟩ := hA
                  obtain ⟨z18, hA⟩ := hA
                  obtain ⟨z19, hA⟩ := hA
                  obtain ⟨z20, hA⟩ := hA
                  obtain ⟨z21, hA⟩ := hA
                  obtain ⟨z22, hA⟩ := hA
                  obtain ⟨z23, hA⟩ := hA
                  obtain ⟨z24, hA⟩ := hA
                  obtain ⟨z25, hA⟩ := hA
                  obtain ⟨z29, hA⟩ := hA
                  obtain ⟨z30, hA⟩ := hA
                  obtain ⟨z31, hA⟩ := hA
                  obtain ⟨z32, hA⟩ := hA
                  obtain ⟨z33, hA⟩ := hA
                  obtain ⟨z34, hA⟩ := hA
                  obtain ⟨z35, hA⟩ := hA
                  obtain ⟨z36, hA⟩ := hA
                  obtain ⟨z37, hA⟩ := hA
                  obtain ⟨z38, hA⟩ := hA
                  obtain ⟨z39, hA⟩ := hA
                  obtain ⟨z40, hA⟩ := hA
                  obtain ⟨z41, hA⟩ := hA
                  obtain ⟨z42, hA⟩ := hA
                  obtain ⟨z43, hA⟩ := hA
                  obtain ⟨z44, hA⟩ := hA
                  obtain ⟨z45, hA⟩ := hA
                  obtain ⟨z46, hA⟩ := hA
                  obtain ⟨z47, hA⟩ := hA
                  obtain ⟨z48, hA⟩ := hA
                  obtain ⟨z49, hA⟩ := hA
                  obtain ⟨z50, hA⟩ := hA
                  obtain ⟨z51, hA⟩ := hA
                  obtain ⟨z52, hA⟩ := hA
                  obtain ⟨z53, hA⟩ := hA
                  obtain ⟨z54, hA⟩ := hA
                  obtain ⟨z55, hA⟩ := hA
                  obtain ⟨z56, hA⟩ := hA
                  obtain ⟨z57, hA⟩ := hA
                  obtain ⟨z58, hA⟩ := hA
                  obtain ⟨z59, hA⟩ := hA
                  obtain ⟨z60, hA⟩ := hA
                  obtain ⟨z61, hA⟩ := hA
                  obtain ⟨z62, hA⟩ := hA
                  obtain ⟨z63, hA⟩ := hA
                  obtain ⟨z64, hA⟩ := hA
                  obtain ⟨z65, hA⟩ := hA
                  obtain ⟨z66, hA⟩ := hA
                  obtain ⟨z67, hA⟩ := hA
                  obtain ⟨z68, hA⟩ := hA
                  obtain ⟨z69, hA⟩ := hA
                  obtain ⟨z70, hA⟩ := hA
                  obtain ⟨z71, hA⟩ := hA
                  obtain ⟨z72, hA⟩ := hA
                  obtain ⟨z73, hA⟩ := hA
                  obtain ⟨z74, hA⟩ := hA
                  obtain ⟨z75, hA⟩ := hA
                  obtain ⟨z76, hA⟩ := hA
                  obtain ⟨z77, hA⟩ := hA
                  obtain ⟨z78, hA⟩ := hA
                  obtain ⟨z79, hA⟩ := hA
                  obtain ⟨z80, hA⟩ := hA
                  obtain ⟨z81, hA⟩ := hA
                  obtain ⟨z82, hA⟩ := hA
                  obtain ⟨z83, hA⟩ := hA
                  obtain ⟨z84, hA⟩ := hA
                  obtain ⟨z85, hA⟩ := hA
                  obtain ⟨z86, hA⟩ := hA
                  obtain ⟨z87, hA⟩ := hA
                  obtain ⟨z88, hA⟩ := hA
                  obtain ⟨z89, hA⟩ := hA
                  obtain ⟨z90, hA⟩ := hA
                  obtain ⟨z91, hA⟩ := hA
                  obtain ⟨z92, hA⟩ := hA
                  obtain ⟨z93, hA⟩ := hA
                  obtain ⟨z94, hA⟩ := hA
                  obtain ⟨z95, hA⟩ := hA
                  obtain ⟨z96, hA⟩ := hA
                  obtain ⟨z97, hA⟩ := hA
                  obtain ⟨z98, hA⟩ := hA
                  obtain ⟨z99, hA⟩ := hA
                  obtain ⟨z100, hA⟩ := hA
                  obtain ⟨z101, hA⟩ := hA
                  obtain ⟨z102, hA⟩ := hA
                  obtain ⟨z103, hA⟩ := hA
                  obtain ⟨z104, hA⟩ := hA
                  obtain ⟨z105, hA⟩ := hA
                  obtain ⟨z106, hA⟩ := hA
                  obtain ⟨z107, hA⟩ := hA
                  obtain ⟨z108, hA⟩ := hA
                  obtain ⟨z109, hA⟩ := hA
                  obtain ⟨z110, hA⟩ := hA
                  obtain ⟨z111, hA⟩ := hA
                  obtain ⟨z112, hA⟩ := hA
                  obtain ⟨z113, hA⟩ := hA
                  obtain ⟨z114, hA⟩ := hA
                  obtain ⟨z115, hA⟩ := hA
                  obtain ⟨z116, hA⟩ := hA
                  obtain ⟨z117, hA⟩ := hA
                  obtain ⟨z118, hA⟩ := hA
                  obtain ⟨z119, hA⟩ := hA
                  obtain ⟨z120, hA⟩ := hA
                  obtain ⟨z121, hA⟩ := hA
                  obtain ⟨z122, hA⟩ := hA
                  obtain ⟨z123, hA⟩ := hA
                  obtain ⟨z124, hA⟩ := hA
                  obtain ⟨z125, hA⟩ := hA
                  obtain ⟨z126, hA⟩ := hA
                  obtain ⟨z127, hA⟩ := hA
                  obtain ⟨z128, hA⟩ := hA
                  obtain ⟨z129, hA⟩ := hA
                  obtain ⟨z130, hA⟩ := hA
                  obtain ⟨z131, hA⟩ := hA
                  obtain ⟨z132, hA⟩ := hA
                  obtain ⟨z133, hA⟩ := hA
                  obtain ⟨z134, hA⟩ := hA
                  obtain ⟨z135, hA⟩ := hA
                  obtain ⟨z136, hA⟩ := hA
                  obtain ⟨z137, hA⟩ := hA
                  obtain ⟨z138, hA⟩ := hA
                  obtain ⟨z139, hA⟩ := hA
                  obtain ⟨z140, hA⟩ := hA
                  obtain ⟨z141, hA⟩ := hA
                  obtain ⟨z142, hA⟩ := hA
                  obtain ⟨z143, hA⟩ := hA
                  obtain ⟨z144, hA⟩ := hA
                  obtain ⟨z145, hA⟩ := hA
                  obtain ⟨z146, hA⟩ := hA
                  obtain ⟨z147, hA⟩ := hA
                  obtain ⟨z148, hA⟩ := hA
                  obtain ⟨z149, hA⟩ := hA
                  obtain ⟨z150, hA⟩ := hA
                  obtain ⟨z151, hA⟩ := hA
                  obtain ⟨z152, hA⟩ := hA
                  obtain ⟨z153, hA⟩ := hA
                  obtain ⟨z154, hA⟩ := hA
                  obtain ⟨z155, hA⟩ := hA
                  obtain ⟨z156, hA⟩ := hA
                  obtain ⟨z157, hA⟩ := hA
                  obtain ⟨z158, hA⟩ := hA
                  obtain ⟨z159, hA⟩ := hA
                  obtain ⟨z160, hA⟩ := hA
                  obtain ⟨z161, hA⟩ := hA
                  obtain ⟨z162, hA⟩ := hA
                  obtain ⟨z163, hA⟩ := hA
                  obtain ⟨z164, hA⟩ := hA
                  obtain ⟨z165, hA⟩ := hA
                  obtain ⟨z166, hA⟩ := hA
                  obtain ⟨z167, hA⟩ := hA
                  obtain ⟨z168, hA⟩ := hA
                  obtain ⟨z169, hA⟩ := hA
                  obtain ⟨z170, hA⟩ := hA
                  obtain ⟨z171, hA⟩ := hA
                  obtain ⟨z172, hA⟩ := hA
                  obtain ⟨z173, hA⟩ := hA
                  obtain ⟨z174, hA⟩ := hA
                  obtain ⟨z175, hA⟩ := hA
                  obtain ⟨z176, hA⟩ := hA
                  obtain ⟨z177, hA⟩ := hA
                  obtain ⟨z178, hA⟩ := hA
                  obtain ⟨z179, hA⟩ := hA
                  obtain ⟨z180, hA⟩ := hA
                  obtain ⟨z181, hA⟩ := hA
                  obtain ⟨z182, hA⟩ := hA
                  obtain ⟨z183, hA⟩ := hA
                  obtain ⟨z184, hA⟩ := hA
                  obtain ⟨z185, hA⟩ := hA
                  obtain ⟨z186, hA⟩ := hA
                  obtain ⟨z187, hA⟩ := hA
                  obtain ⟨z188, hA⟩ := hA
                  obtain ⟨z189, hA⟩ := hA
                  obtain ⟨z190, hA⟩ := hA
                  obtain ⟨z191, hA⟩ := hA
                  obtain ⟨z192, hA⟩ := hA
                  obtain ⟨z193, hA⟩ := hA
                  obtain ⟨z194, hA⟩ := hA
                  obtain ⟨z195, hA⟩ := hA
                  obtain ⟨z196, hA⟩ := hA
                  obtain ⟨z197, hA⟩ := hA
                  obtain ⟨z198, hA⟩ := hA
                  obtain ⟨z199, hA⟩ := hA
                  obtain ⟨z200, hA⟩ := hA
                  obtain ⟨z201, hA⟩ := hA
                  obtain ⟨z202, hA⟩ := hA
                  obtain ⟨z203, hA⟩ := hA
                  obtain ⟨z204, hA⟩ := hA
                  obtain ⟨z205, hA⟩ := hA
                  obtain ⟨z206, hA⟩ := hA
                  obtain ⟨z207, hA⟩ := hA
                  obtain ⟨z208, hA⟩ := hA
                  obtain ⟨z209, hA⟩ := hA
                  obtain ⟨z210, hA⟩ := hA
                  obtain ⟨z211, hA⟩ := hA
                  obtain ⟨z212, hA⟩ := hA
                  obtain ⟨z213, hA⟩ := hA
                  obtain ⟨z214, hA⟩ := hA
                  obtain ⟨z215, hA⟩ := hA
                  obtain ⟨z216, hA⟩ := hA
                  obtain ⟨z217, hA⟩ := hA
                  obtain ⟨z218, hA⟩ := hA
                  obtain ⟨z219, hA⟩ := hA
                  obtain ⟨z220, hA⟩ := hA
                  obtain ⟨z221, hA⟩ := hA
                  obtain ⟨z222, hA⟩ := hA
                  obtain ⟨z223, hA⟩ := hA
                  obtain ⟨z224, hA⟩ := hA
                  obtain ⟨z225, hA⟩ := hA
                  obtain ⟨z226, hA⟩ := hA
                  obtain ⟨z227, hA⟩ := hA
                  obtain ⟨z228, hA⟩ := hA
                  obtain ⟨z229, hA⟩ := hA
                  obtain ⟨z230, hA⟩ := hA
                  obtain ⟨z231, hA⟩ := hA
                  obtain ⟨z232, hA⟩ := hA
                  obtain ⟨z233, hA⟩ := hA
                  obtain ⟨z234, hA⟩ := hA
                  obtain ⟨z235, hA⟩ := hA
                  obtain ⟨z236, hA⟩ := hA
                  obtain ⟨z237, hA⟩ := hA
                  obtain ⟨z238, hA⟩ := hA
                  obtain ⟨z239, hA⟩ := hA
                  obtain ⟨z240, hA⟩ := hA
                  obtain ⟨z241, hA⟩ := hA
                  obtain ⟨z242, hA⟩ := hA
                  obtain ⟨z243, hA⟩ := hA
                  obtain ⟨z244, hA⟩ := hA
                  obtain ⟨z245, hA⟩ := hA
                  obtain ⟨z246, hA⟩ := hA
                  obtain ⟨z247, hA⟩ := hA
                  obtain ⟨z248, hA⟩ := hA
                  obtain ⟨z249, hA⟩ := hA
                  obtain ⟨z250, hA⟩ := hA
                  obtain ⟨z251, hA⟩ := hA
                  obtain ⟨z252, hA⟩ := hA
                  obtain ⟨z253, hA⟩ := hA
                  obtain ⟨z254, hA⟩ := hA
                  obtain ⟨z255, hA⟩ := hA
                  obtain ⟨hA, he⟩ := hA
                  exact ⟨Bx, _, _, _, _, _, _, _, _, _, _, _, _, _, _, _, _, _, _, _, _, _, _, _, _, _, _, _, _, _, _, _, _, _, _, _, _, _, _, _, _, _, _, _, _, _, _, _, _, _, _, _, _, _, _, _, _, _, _, _, _, _, _, _, _, _, _, _, _, _, _, _, _, _, _, _, _, _, _, _, _, _, _, _, _, _, _, _, _, _, _, _, _, _, _, _, _, _, _, _, _, _, _, _, _, _, _, _, _, _, _, _, _, _, _, _, _, _, _, _, _, _, _, _, _, _, _, _, _, _, _, _, _, _, _, _, _, _, _, _, _, _, _, _, _, _, _, _, _, _, _, _, _, _, _, _, _, _, _, _, _, _, _, _, _, _, _, _, _, _, _, _, _, _, _, _, _, _, _, _, _, _, _, _, _, _, _, _, _, _, _, _, _, _, _, _, _, _, _, _, _, _, _, _, _, _, _, _, _, _, _, _, _, _, _, _, _, _, _, _, _, _, _, _, _, _, _, _, _, _, _, _, _, _, _, _, _, _, _, _, _, _, _, _, _, _, _, _, _, _, _, _, ⟨hA.out.1, (Chg.of_grownBy hg).heap hA.out.2 ((NoCells.of_row hr).notB hA.out.2)⟩, he⟩)
                ?assign ?body ?done ?stop
              case assign =>
                rintro l pre x W K ⟨i1, i2, i3⟩ hK
                obtain ⟨⟨xn, xs9, xlo, xhi⟩, hxm⟩ := x
                simp only [mkH]
                gi_wp2
                have hz := i3.size
                exact hK _ _ ((KeepsOthers.alloc _ _).from _) (KeepB.same ((Chg.refl _ W).alloc _) hz) ⟨((Chg.refl (fun _ => False) W).alloc _).heap i1 (fun h => h), ((Chg.refl (fun _ => False) W).alloc _).heap i2 (fun h => h), i3.alloc _⟩ ⟨W.heap.size, _, _, _, _, _, _, _, _, _, _, _, _, _, _, _, _, _, _, _, _, _, _, _, _, _, _, _, _, _, _, _, _, _, _, _, _, _, _, _, _, _, _, _, _, _, _, _, _, _, _, _, _, _, _, _, _, _, _, _, _, _, _, _, _, _, _, _, _, _, _, _, _, _, _, _, _, _, _, _, _, _, _, _, _, _, _, _, _, _, _, _, _, _, _, _, _, _, _, _, _, _, _, _, _, _, _, _, _, _, _, _, _, _, _, _, _, _, _, _, _, _, _, _, _, _, _, _, _, _, _, _, _, _, _, _, _, _, _, _, _, _, _, _, _, _, _, _, _, _, _, _, _, _, _, _, _, _, _, _, _, _, _, _, _, _, _, _, _, _, _, _, _, _, _, _, _, _, _, _, _, _, _, _, _, _, _, _, _, _, _, _, _, _, _, _, _, _, _, _, _, _, _, _, _, _, _, _, _, _, _, _, _, _, _, _, _, _, _, _, _, _, _, _, _, _, _, _, _, _, _, _, _, _, _, _, _, _, _, _, _, _, _, _, _, _, _, _, _, _, _, _, ⟨hz, heap_at_new _ _ _ rfl⟩, rfl⟩
              case body =>
                as_aux_lemma =>
                rintro l pre x a' W hl _ ⟨hb1, hb2, hb3⟩ hA hlt9
                obtain ⟨Bx, hA⟩ := hA
                obtain ⟨z0, hA⟩ := hA
                obtain ⟨z1, hA⟩ := hA
                obtain ⟨z2, hA⟩ := hA
                obtain ⟨z3, hA⟩ := hA
                obtain ⟨z4, hA⟩ := hA
                obtain ⟨z5, hA⟩ := hA
                obtain ⟨z6, hA⟩ := hA
                obtain ⟨z7, hA⟩ := hA
                obtain ⟨z9, hA⟩ := hA
                obtain ⟨z11, hA⟩ := hA
                obtain ⟨z12, hA⟩ := hA
                obtain ⟨z13, hA⟩ := hA
                obtain ⟨z14, hA⟩ := hA
                obtain ⟨z15, hA⟩ := hA
                obtain ⟨z16, hA⟩ := hA
                obtain ⟨z17, hA⟩ := hA
                obtain ⟨z18, hA⟩ := hA
                obtain ⟨z19, hA⟩ := hA
                obtain ⟨z20, hA⟩ := hA
                obtain ⟨z21, hA⟩ := hA
                obtain ⟨z22, hA⟩ := hA
                obtain ⟨z23, hA⟩ := hA
                obtain ⟨z24, hA⟩ := hA
                obtain ⟨z25, hA⟩ := hA
                obtain ⟨z29, hA⟩ := hA
                obtain ⟨z30, hA⟩ := hA
                obtain ⟨z31, hA⟩ := hA
                obtain ⟨z32, hA⟩ := hA
                obtain ⟨z33, hA⟩ := hA
                obtain ⟨z34, hA⟩ := hA
                obtain ⟨z35, hA⟩ := hA
                obtain ⟨z36, hA⟩ := hA
                obtain ⟨z37, hA⟩ := hA
                obtain ⟨z38, hA⟩ := hA
                obtain ⟨z39, hA⟩ := hA
                obtain ⟨z40, hA⟩ := hA
                obtain ⟨z41, hA⟩ := hA
                obtain ⟨z42, hA⟩ := hA
                obtain ⟨z43, hA⟩ := hA
                obtain ⟨z44, hA⟩ := hA
                obtain ⟨z45, hA⟩ := hA
                obtain ⟨z46, hA⟩ := hA
                obtain ⟨z47, hA⟩ := hA
                obtain ⟨z48, hA⟩ := hA
                obtain ⟨z49, hA⟩ := hA
                obtain ⟨z50, hA⟩ := hA
                obtain ⟨z51, hA⟩ := hA
                obtain ⟨z52, hA⟩ := hA
                obtain ⟨z53, hA⟩ := hA
                obtain ⟨z54, hA⟩ := hA
                obtain ⟨z55, hA⟩ := hA
                obtain ⟨z56, hA⟩ := hA
                obtain ⟨z57, hA⟩ := hA
                obtain ⟨z58, hA⟩ := hA
                obtain ⟨z59, hA⟩ := hA
                obtain ⟨z60, hA⟩ := hA
                obtain ⟨z61, hA⟩ := hA
                obtain ⟨z62, hA⟩ := hA
                obtain ⟨z63, hA⟩ := hA
                obtain ⟨z64, hA⟩ := hA
                obtain ⟨z65, hA⟩ := hA
                obtain ⟨z66, hA⟩ := hA
                obtain ⟨z67, hA⟩ := hA
                obtain ⟨z68, hA⟩ := hA
                obtain ⟨z69, hA⟩ := hA
                obtain ⟨z70, hA⟩ := hA
                obtain ⟨z71, hA⟩ := hA
                obtain ⟨z72, hA⟩ := hA
                obtain ⟨z73, hA⟩ := hA
                obtain ⟨z74, hA⟩ := hA
                obtain ⟨z75, hA⟩ := hA
                obtain ⟨z76, hA⟩ := hA
                obtain ⟨z77, hA⟩ := hA
                obtain ⟨z78, hA⟩ := hA
                obtain ⟨z79, hA⟩ := hA
                obtain ⟨z80, hA⟩ := hA
                obtain ⟨z81, hA⟩ := hA
                obtain ⟨z82, hA⟩ := hA
                obtain ⟨z83, hA⟩ := hA
                obtain ⟨z84, hA⟩ := hA
                obtain ⟨z85, hA⟩ := hA
                obtain ⟨z86, hA⟩ := hA
                obtain ⟨z87, hA⟩ := hA
                obtain ⟨z88, hA⟩ := hA
                obtain ⟨z89, hA⟩ := hA
                obtain ⟨z90, hA⟩ := hA
                obtain ⟨z91, hA⟩ := hA
                obtain ⟨z92, hA⟩ := hA
                obtain ⟨z93, hA⟩ := hA
                obtain ⟨z94, hA⟩ := hA
                obtain ⟨z95, hA⟩ := hA
                obtain ⟨z96, hA⟩ := hA
                obtain ⟨z97, hA⟩ := hA
                obtain ⟨z98, hA⟩ := hA
                obtain ⟨z99, hA⟩ := hA
                obtain ⟨z100, hA⟩ := hA
                obtain ⟨z101, hA⟩ := hA
                obtain ⟨z102, hA⟩ := hA
                obtain ⟨z103, hA⟩ := hA
                obtain ⟨z104, hA⟩ := hA
                obtain ⟨z105, hA⟩ := hA
                obtain ⟨z106, hA⟩ := hA
                obtain ⟨z107, hA⟩ := hA
                obtain ⟨z108, hA⟩ := hA
                obtain ⟨z109, hA⟩ := hA
                obtain ⟨z110, hA⟩ := hA
                obtain ⟨z111, hA⟩ := hA
                obtain ⟨z112, hA⟩ := hA
                obtain ⟨z113, hA⟩ := hA
                obtain ⟨z114, hA⟩ := hA
                obtain ⟨z115, hA⟩ := hA
                obtain ⟨z116, hA⟩ := hA
                obtain ⟨z117, hA⟩ := hA
                obtain ⟨z118, hA⟩ := hA
                obtain ⟨z119, hA⟩ := hA
                obtain ⟨z120, hA⟩ := hA
                obtain ⟨z121, hA⟩ := hA
                obtain ⟨z122, hA⟩ := hA
                obtain ⟨z123, hA⟩ := hA
                obtain ⟨z124, hA⟩ := hA
                obtain ⟨z125, hA⟩ := hA
                obtain ⟨z126, hA⟩ := hA
                obtain ⟨z127, hA⟩ := hA
                obtain ⟨z128, hA⟩ := hA
                obtain ⟨z129, hA⟩ := hA
                obtain ⟨z130, hA⟩ := hA
                obtain ⟨z131, hA⟩ := hA
                obtain ⟨z132, hA⟩ := hA
                obtain ⟨z133, hA⟩ := hA
                obtain ⟨z134, hA⟩ := hA
                obtain ⟨z135, hA⟩ := hA
                obtain ⟨z136, hA⟩ := hA
                obtain ⟨z137, hA⟩ := hA
                obtain ⟨z138, hA⟩ := hA
                obtain ⟨z139, hA⟩ := hA
                obtain ⟨z140, hA⟩ := hA
                obtain ⟨z141, hA⟩ := hA
                obtain ⟨z142, hA⟩ := hA
                obtain ⟨z143, hA⟩ := hA
                obtain ⟨z144, hA⟩ := hA
                obtain ⟨z145, hA⟩ := hA
                obtain ⟨z146, hA⟩ := hA
                obtain ⟨z147, hA⟩ := hA
                obtain ⟨z148, hA⟩ := hA
                obtain ⟨z149, hA⟩ := hA
                obtain ⟨z150, hA⟩ := hA
                obtain ⟨z151, hA⟩ := hA
                obtain ⟨z152, hA⟩ := hA
                obtain ⟨z153, hA⟩ := hA
                obtain ⟨z154, hA⟩ := hA
                obtain ⟨z155, hA⟩ := hA
                obtain ⟨z156, hA⟩ := hA
                obtain ⟨z157, hA⟩ := hA
                obtain ⟨z158, hA⟩ := hA
                obtain ⟨z159, hA⟩ := hA
                obtain ⟨z160, hA⟩ := hA
                obtain ⟨z161, hA⟩ := hA
                obtain ⟨z162, hA⟩ := hA
                obtain ⟨z163, hA⟩ := hA
                obtain ⟨z164, hA⟩ := hA
                obtain ⟨z165, hA⟩ := hA
                obtain ⟨z166, hA⟩ := hA
                obtain ⟨z167, hA⟩ := hA
                obtain ⟨z168, hA⟩ := hA
                obtain ⟨z169, hA⟩ := hA
                obtain ⟨z170, hA⟩ := hA
                obtain ⟨z171, hA⟩ := hA
                obtain ⟨z172, hA⟩ := hA
                obtain ⟨z173, hA⟩ := hA
                obtain ⟨z174, hA⟩ := hA
                obtain ⟨z175, hA⟩ := hA
                obtain ⟨z176, hA⟩ := hA
                obtain ⟨z177, hA⟩ := hA
                obtain ⟨z178, hA⟩ := hA
                obtain ⟨z179, hA⟩ := hA
                obtain ⟨z180, hA⟩ := hA
                obtain ⟨z181, hA⟩ := hA
                obtain ⟨z182, hA⟩ := hA
                obtain ⟨z183, hA⟩ := hA
                obtain ⟨z184, hA⟩ := hA
                obtain ⟨z185, hA⟩ := hA
                obtain ⟨z186, hA⟩ := hA
                obtain ⟨z187, hA⟩ := hA
                obtain ⟨z188, hA⟩ := hA
                obtain ⟨z189, hA⟩ := hA
                obtain ⟨z190, hA⟩ := hA
                obtain ⟨z191, hA⟩ := hA
                obtain ⟨z192, hA⟩ := hA
                obtain ⟨z193, hA⟩ := hA
                obtain ⟨z194, hA⟩ := hA
                obtain ⟨z195, hA⟩ := hA
                obtain ⟨z196, hA⟩ := hA
                obtain ⟨z197, hA⟩ := hA
                obtain ⟨z198, hA⟩ := hA
                obtain ⟨z199, hA⟩ := hA
                obtain ⟨z200, hA⟩ := hA
                obtain ⟨z201, hA⟩ := hA
                obtain ⟨z202, hA⟩ := hA
                obtain ⟨z203, hA⟩ := hA
                obtain ⟨z204, hA⟩ := hA
                obtain ⟨z205, hA⟩ := hA
                obtain ⟨z206, hA⟩ := hA
                obtain ⟨z207, hA⟩ := hA
                obtain ⟨z208, hA⟩ := hA
                obtain ⟨z209, hA⟩ := hA
                obtain ⟨z210, hA⟩ := hA
                obtain ⟨z211, hA⟩ := hA
                obtain ⟨z212, hA⟩ := hA
                obtain ⟨z213, hA⟩ := hA
                obtain ⟨z214, hA⟩ := hA
                obtain ⟨z215, hA⟩ := hA
                obtain ⟨z216, hA⟩ := hA
                obtain ⟨z217, hA⟩ := hA
                obtain ⟨z218, hA⟩ := hA
                obtain ⟨z219, hA⟩ := hA
                obtain ⟨z220, hA⟩ := hA
                obtain ⟨z221, hA⟩ := hA
                obtain ⟨z222, hA⟩ := hA
                obtain ⟨z223, hA⟩ := hA
                obtain ⟨z224, hA⟩ := hA
                obtain ⟨z225, hA⟩ := hA
                obtain ⟨z226, hA⟩ := hA
                obtain ⟨z227, hA⟩ := hA
                obtain ⟨z228, hA⟩ := hA
                obtain ⟨z229, hA⟩ := hA
                obtain ⟨z230, hA⟩ := hA
                obtain ⟨z231, hA⟩ := hA
                obtain ⟨z232, hA⟩ := hA
                obtain ⟨z233, hA⟩ := hA
                obtain ⟨z234, hA⟩ := hA
                obtain ⟨z235, hA⟩ := hA
                obtain ⟨z236, hA⟩ := hA
                obtain ⟨z237, hA⟩ := hA
                obtain ⟨z238, hA⟩ := hA
                obtain ⟨z239, hA⟩ := hA
                obtain ⟨z240, hA⟩ := hA
                obtain ⟨z241, hA⟩ := hA
                obtain ⟨z242, hA⟩ := hA
                obtain ⟨z243, hA⟩ := hA
                obtain ⟨z244, hA⟩ := hA
                obtain ⟨z245, hA⟩ := hA
                obtain ⟨z246, hA⟩ := hA
                obtain ⟨z247, hA⟩ := hA
                obtain ⟨z248, hA⟩ := hA
                obtain ⟨z249, hA⟩ := hA
                obtain ⟨z250, hA⟩ := hA
                obtain ⟨z251, hA⟩ := hA
                obtain ⟨z252, hA⟩ := hA
                obtain ⟨z253, hA⟩ := hA
                obtain ⟨z254, hA⟩ := hA
                obtain ⟨z255, hA⟩ := hA
                obtain ⟨hA, rfl⟩ := hA
                dsimp only
                obtain ⟨⟨xn, xs9, xlo, xhi⟩, hxm⟩ := x
                simp only at hA
                obtain ⟨hBx1, hBx2⟩ := hA.out
                have HBX2 := Lib.hid hBx2
                have HB1 := Lib.hid hb1
                have HB2 := Lib.hid hb2
                have HB3 := Lib.hid hb3
                have cW : Chg (fun _ => False) wc W := C5.out.new hb3 (fun q h => by have := ORD.out; omega)
                have HMW := Lib.hid (HMX2.out.same cW)
                have HOWW : Hid (Reads W 4 (.slice na j nc) M'.length (M'.flatMap Hld.cells)) := HMW.out.own.reads
                have hnr : Hid (nameRight xn = true) := hTM'.out.1.nm _ hxm
                obtain ⟨ls, hls⟩ : ∃ ls, ls = lastN (pre.map Subtype.val) := ⟨_, rfl⟩
                have HLS := Lib.hid hls
                rw [← hls] at hb1
                obtain ⟨pl, hpl⟩ : ∃ n, n = pre.length := ⟨_, rfl⟩
                have HPL := Lib.hid hpl
                rw [← hpl] at hb2
                have hpl9 : pl ≤ 1000 := by rw [hpl]; have h1 := HKL16.out; omega
                clear hb3 cW hA hls hpl hlt9
                have q10c : W.cell? ⟨q10, 0, none⟩ = some (.slice na j nc) := by rw [cell_of_heap HMW.out.c10]; rfl
                have y0 : W.cell? ⟨Bx, 0, none⟩ = some (.string ⟨xn.toArray⟩) := by rw [cell_of_heap hBx2]; rfl
                have y1 : W.cell? ⟨Bx, 1, none⟩ = some (.string ⟨xs9.toArray⟩) := by rw [cell_of_heap hBx2]; rfl
                have y2 : W.cell? ⟨Bx, 2, none⟩ = some (.int .i64 xlo) := by rw [cell_of_heap hBx2]; rfl
                have y3 : W.cell? ⟨Bx, 3, none⟩ = some (.int .i64 xhi) := by rw [cell_of_heap hBx2]; rfl
                have cl : W.cell? ⟨bl, 0, none⟩ = some (.string ⟨ls.toArray⟩) := by rw [cell_of_heap hb1]; rfl
                have cn : W.cell? ⟨bn, 0, none⟩ = some (.int .i64 pl) := by rw [cell_of_heap hb2]; rfl
                clear hb1 hb2 hBx2
                gi_wp2
                refine ⟨trivial, (CallsIn.inRound l (callsIn_wide.2 (find17 (.slice na j nc) M' xn W HOWW.out))).mono ?_⟩
                rintro e w' ⟨⟨r2, rfl, hf⟩, rfl⟩
                obtain ⟨i9, y9, rfl, hi9, hy9⟩ : ∃ (i9 : Nat) (y9 : Hld), r2 = i9 ∧ M'[i9]? = some y9 ∧ y9.name = xn := by
                  rcases hf with ⟨_, hno⟩ | h
                  · exact absurd rfl (hno _ hxm)
                  · exact h
                obtain rfl : y9 = ⟨xn, xs9, xlo, xhi⟩ := by
                  obtain ⟨k9, hk9⟩ := List.getElem?_of_mem hxm
                  have e1 : (M'.map Hld.name)[i9]? = some xn := by rw [List.getElem?_map, hi9, ← hy9]; rfl
                  have e2 : (M'.map Hld.name)[k9]? = some xn := by rw [List.getElem?_map, hk9]; rfl
                  have e3 : i9 = k9 := (List.getElem?_inj (List.getElem?_eq_some_iff.1 e1).1 hTM'.out.1.nd).1 (e1.trans e2.symm)
                  rw [← e3, hi9] at hk9
                  exact Option.some.inj hk9
                have hi9j : i9 < j := by rw [HML'.out]; exact (List.getElem?_eq_some_iff.1 hi9).1
                obtain ⟨g9, o9, hma, c0, c1, c2, c3⟩ := hold_cells (show Reads W 4 (.slice na j nc) j (M'.flatMap Hld.cells) by have h := HOWW.out; rw [← HML'.out] at h; exact h) HML'.out i9 _ hi9
                simp only at c0 c1 c2 c3
                subst hma
                have hneq := fun w => neq_hold w xn xn xs9 xs9 xlo xlo xhi xhi
                simp only [and_self, not_true_eq_false, decide_false] at hneq
                have i90 : (0 : Int) ≤ (i9 : Int) := by omega
                have fl : W.frozen? ⟨bl, 0, none⟩ = false := frozen_of_heap HB1.out 0
                have fn9 : W.frozen? ⟨bn, 0, none⟩ = false := frozen_of_heap HB2.out 0
                have HMEM := Lib.hid hxm
                clear hf hi9 hy9
                by_cases hle : xn ≤ ls
                · have hcmp : (Op.bytesLess xn ls || xn == ls) = true := by
                    rw [bytesLess_eq]
                    rcases List.le_iff_lt_or_eq.1 hle with h | h
                    · simp [h]
                    · simp [h]
                  gi_wp2
                  refine region_to l _ (fun _ => False) 16 (by kernel_rfl) rfl (nodefer (by kernel_rfl)) ?_
                  obtain ⟨Wd, hwd⟩ : ∃ x, x = W.drew := ⟨_, rfl⟩
                  rw [← hwd]
                  have cq : Chg (fun _ => False) W Wd := by rw [hwd]; exact (Chg.refl _ W).drew
                  clear hwd
                  have q10d := cq.cell q10c (fun h => h)
                  have y0d := cq.cell y0 (fun h => h)
                  have cld := cq.cell cl (fun h => h)
                  have HBXD := Lib.hid (cq.heap HBX2.out (fun h => h))
                  have HROW : Hid (∀ (jj : Nat) (u : Value), [Value.string ⟨xn.toArray⟩, .string ⟨xs9.toArray⟩, .int .i64 xlo, .int .i64 xhi][jj]? = some u → Wd.cell? ⟨g9, o9 + i9 * 4 + jj, none⟩ = some u) := fun jj u hu => by
                    match jj, hu with
                    | 0, hu => cases hu; exact cq.cell c0 (fun h => h)
                    | 1, hu => cases hu; exact cq.cell c1 (fun h => h)
                    | 2, hu => cases hu; exact cq.cell c2 (fun h => h)
                    | 3, hu => cases hu; exact cq.cell c3 (fun h => h)
                  clear c0 c1 c2 c3 y0 y1 y2 y3 cl cn fl fn9 q10c
                  refine wpT.take 0 rfl (by kernel_rfl) (fun _ _ _ h => h) rfl (fun w' hw' => by go_simp <;> with_reducible rfl) ?_
                  simp only [Act.put, List.setIfInBounds_toArray, List.set_cons_zero, List.set_cons_succ]
                  refine wpT.take (v := .bool false) 1 rfl (by kernel_rfl) (fun _ _ _ h => h) rfl (fun w' hw' => by go_simp <;> first | with_reducible rfl | (simp <;> omega)) ?_
                  simp only [Act.put, List.setIfInBounds_toArray, List.set_cons_zero, List.set_cons_succ]
                  refine wpT.take 2 rfl (by kernel_rfl) (fun _ _ _ h => h) rfl (fun w' hw' => by go_simp <;> with_reducible rfl) ?_
                  simp only [Act.put, List.setIfInBounds_toArray, List.set_cons_zero, List.set_cons_succ]
                  refine wpT.ld 3 rfl (by kernel_rfl) (fun _ _ _ _ h => h) rfl _ _ rfl (by kernel_rfl) ⟨q10, 0, none⟩ rfl _ (q10d) (fun h => h) ?_
                  simp only [Act.put, List.setIfInBounds_toArray, List.set_cons_zero, List.set_cons_succ]
                  refine wpT.take 4 rfl (by kernel_rfl) (fun _ _ _ h => h) rfl (fun w' hw' => by go_simp <;> with_reducible rfl) ?_
                  simp only [Act.put, List.setIfInBounds_toArray, List.set_cons_zero, List.set_cons_succ]
                  refine wpT.take 5 rfl (by kernel_rfl) (fun _ _ _ h => h) rfl (fun w' hw' => by go_simp <;> with_reducible rfl) ?_
                  simp only [Act.put, List.setIfInBounds_toArray, List.set_cons_zero, List.set_cons_succ]
                  refine wpT.ldR 6 rfl (by kernel_rfl) (fun _ _ _ _ h => h) rfl _ _ rfl _ Try.underlying28 rfl g9 (o9 + i9 * 4) rfl [.string ⟨xn.toArray⟩, .string ⟨xs9.toArray⟩, .int .i64 xlo, .int .i64 xhi] (by kernel_rfl) HROW.out (fun h => h) ?_
                  simp only [Act.put, List.setIfInBounds_toArray, List.set_cons_zero, List.set_cons_succ]
                  refine wpT.ldA 7 rfl (by kernel_rfl) (fun _ _ _ _ h => h) rfl _ _ rfl _ Try.underlying28 rfl Bx rfl [.string ⟨xn.toArray⟩, .string ⟨xs9.toArray⟩, .int .i64 xlo, .int .i64 xhi] (by kernel_rfl) _ _ HBXD.out (fun h => h) ?_
                  simp only [Act.put, List.setIfInBounds_toArray, List.set_cons_zero, List.set_cons_succ]
                  refine wpT.take (v := .bool false) 8 rfl (by kernel_rfl) (fun _ _ _ h => h) rfl (fun w' hw' => by have hq := hneq; go_simp <;> first | with_reducible rfl | simp [hq]) ?_
                  simp only [Act.put, List.setIfInBounds_toArray, List.set_cons_zero, List.set_cons_succ]
                  refine wpT.take 9 rfl (by kernel_rfl) (fun _ _ _ h => h) rfl (fun w' hw' => by go_simp <;> with_reducible rfl) ?_
                  simp only [Act.put, List.setIfInBounds_toArray, List.set_cons_zero, List.set_cons_succ]
                  refine wpT.take 10 rfl (by kernel_rfl) (fun _ _ _ h => h) rfl (fun w' hw' => by go_simp <;> with_reducible rfl) ?_
                  simp only [Act.put, List.setIfInBounds_toArray, List.set_cons_zero, List.set_cons_succ]
                  refine wpT.take 11 rfl (by kernel_rfl) (fun _ _ _ h => h) rfl (fun w' hw' => by go_simp <;> with_reducible rfl) ?_
                  simp only [Act.put, List.setIfInBounds_toArray, List.set_cons_zero, List.set_cons_succ]
                  refine wpT.ld 12 rfl (by kernel_rfl) (fun _ _ _ _ h => h) rfl _ _ rfl (by kernel_rfl) ⟨Bx, 0, none⟩ rfl _ (y0d) (fun h => h) ?_
                  simp only [Act.put, List.setIfInBounds_toArray, List.set_cons_zero, List.set_cons_succ]
                  refine wpT.ld 13 rfl (by kernel_rfl) (fun _ _ _ _ h => h) rfl _ _ rfl (by kernel_rfl) ⟨bl, 0, none⟩ rfl _ (cld) (fun h => h) ?_
                  simp only [Act.put, List.setIfInBounds_toArray, List.set_cons_zero, List.set_cons_succ]
                  refine wpT.take (v := .bool true) 14 rfl (by kernel_rfl) (fun _ _ _ h => h) rfl (fun w' hw' => by have hq := hcmp; go_simp <;> first | with_reducible rfl | simp [hq]) ?_
                  simp only [Act.put, List.setIfInBounds_toArray, List.set_cons_zero, List.set_cons_succ]
                  refine wpT.take 15 rfl (by kernel_rfl) (fun _ _ _ h => h) rfl (fun w' hw' => by go_simp <;> with_reducible rfl) ?_
                  simp only [Act.put, List.setIfInBounds_toArray, List.set_cons_zero, List.set_cons_succ]
                  refine wpT.done (by kernel_rfl) ?_
                  refine nopo_normal ?_
                  have q8c2 : Wd.cell? ⟨w.heap.size + 1, 0, none⟩ = some (.bool false) := by rw [cell_of_heap (cq.heap HMW.out.c8 (fun h => h))]; rfl
                  have q8f2 : Wd.frozen? ⟨w.heap.size + 1, 0, none⟩ = false := frozen_of_heap (cq.heap HMW.out.c8 (fun h => h)) 0
                  have hq8l := HMX2.out.lt.2.1
                  gi_wp2
                  refine ⟨keepsFrom_chg (S := fun q => q = w.heap.size + 1) ((cq.mono (fun _ _ h => h.elim)).trans ((Chg.refl (fun q => q = w.heap.size + 1) Wd).setCell (p := ⟨w.heap.size + 1, 0, none⟩) (fun _ => rfl) _)) (fun q hq => by have := ORD.out; have hq : q = w.heap.size + 1 := hq; omega), ?_⟩
                  dsimp only
                  rw [List.map_append]
                  exact lastN_bad (x := ⟨xn, xs9, xlo, xhi⟩) hnr.out (by rw [← HLS.out]; exact hle)
                · have hcmp : (Op.bytesLess xn ls || xn == ls) = false := by
                    rw [bytesLess_eq]
                    have h1 : ¬ xn < ls := fun h => hle (List.le_of_lt h)
                    have h2 : ¬ xn = ls := fun h => hle (h ▸ List.le_refl _)
                    simp [h1, h2]
                  gi_wp2
                  refine region_to l _ (fun _ => False) 16 (by kernel_rfl) rfl (nodefer (by kernel_rfl)) ?_
                  obtain ⟨Wd, hwd⟩ : ∃ x, x = W.drew := ⟨_, rfl⟩
                  rw [← hwd]
                  have cq : Chg (fun _ => False) W Wd := by rw [hwd]; exact (Chg.refl _ W).drew
                  clear hwd
                  have q10d := cq.cell q10c (fun h => h)
                  have y0d := cq.cell y0 (fun h => h)
                  have cld := cq.cell cl (fun h => h)
                  have HBXD := Lib.hid (cq.heap HBX2.out (fun h => h))
                  have HROW : Hid (∀ (jj : Nat) (u : Value), [Value.string ⟨xn.toArray⟩, .string ⟨xs9.toArray⟩, .int .i64 xlo, .int .i64 xhi][jj]? = some u → Wd.cell? ⟨g9, o9 + i9 * 4 + jj, none⟩ = some u) := fun jj u hu => by
                    match jj, hu with
                    | 0, hu => cases hu; exact cq.cell c0 (fun h => h)
                    | 1, hu => cases hu; exact cq.cell c1 (fun h => h)
                    | 2, hu => cases hu; exact cq.cell c2 (fun h => h)
                    | 3, hu => cases hu; exact cq.cell c3 (fun h => h)
                  clear c0 c1 c2 c3 y0 y1 y2 y3 cl cn fl fn9 q10c
                  refine wpT.take 0 rfl (by kernel_rfl) (fun _ _ _ h => h) rfl (fun w' hw' => by go_simp <;> with_reducible rfl) ?_
                  simp only [Act.put, List.setIfInBounds_toArray, List.set_cons_zero, List.set_cons_succ]
                  refine wpT.take (v := .bool false) 1 rfl (by kernel_rfl) (fun _ _ _ h => h) rfl (fun w' hw' => by go_simp <;> first | with_reducible rfl | (simp <;> omega)) ?_
                  simp only [Act.put, List.setIfInBounds_toArray, List.set_cons_zero, List.set_cons_succ]
                  refine wpT.take 2 rfl (by kernel_rfl) (fun _ _ _ h => h) rfl (fun w' hw' => by go_simp <;> with_reducible rfl) ?_
                  simp only [Act.put, List.setIfInBounds_toArray, List.set_cons_zero, List.set_cons_succ]
                  refine wpT.ld 3 rfl (by kernel_rfl) (fun _ _ _ _ h => h) rfl _ _ rfl (by kernel_rfl) ⟨q10, 0, none⟩ rfl _ (q10d) (fun h => h) ?_
                  simp only [Act.put, List.setIfInBounds_toArray, List.set_cons_zero, List.set_cons_succ]
                  refine wpT.take 4 rfl (by kernel_rfl) (fun _ _ _ h => h) rfl (fun w' hw' => by go_simp <;> with_reducible rfl) ?_
                  simp only [Act.put, List.setIfInBounds_toArray, List.set_cons_zero, List.set_cons_succ]
                  refine wpT.take 5 rfl (by kernel_rfl) (fun _ _ _ h => h) rfl (fun w' hw' => by go_simp <;> with_reducible rfl) ?_
                  simp only [Act.put, List.setIfInBounds_toArray, List.set_cons_zero, List.set_cons_succ]
                  refine wpT.ldR 6 rfl (by kernel_rfl) (fun _ _ _ _ h => h) rfl _ _ rfl _ Try.underlying28 rfl g9 (o9 + i9 * 4) rfl [.string ⟨xn.toArray⟩, .string ⟨xs9.toArray⟩, .int .i64 xlo, .int .i64 xhi] (by kernel_rfl) HROW.out (fun h => h) ?_
                  simp only [Act.put, List.setIfInBounds_toArray, List.set_cons_zero, List.set_cons_succ]
                  refine wpT.ldA 7 rfl (by kernel_rfl) (fun _ _ _ _ h => h) rfl _ _ rfl _ Try.underlying28 rfl Bx rfl [.string ⟨xn.toArray⟩, .string ⟨xs9.toArray⟩, .int .i64 xlo, .int .i64 xhi] (by kernel_rfl) _ _ HBXD.out (fun h => h) ?_
                  simp only [Act.put, List.setIfInBounds_toArray, List.set_cons_zero, List.set_cons_succ]
                  refine wpT.take (v := .bool false) 8 rfl (by kernel_rfl) (fun _ _ _ h => h) rfl (fun w' hw' => by have hq := hneq; go_simp <;> first | with_reducible rfl | simp [hq]) ?_
                  simp only [Act.put, List.setIfInBounds_toArray, List.set_cons_zero, List.set_cons_succ]
                  refine wpT.take 9 rfl (by kernel_rfl) (fun _ _ _ h => h) rfl (fun w' hw' => by go_simp <;> with_reducible rfl) ?_
                  simp only [Act.put, List.setIfInBounds_toArray, List.set_cons_zero, List.set_cons_succ]
                  refine wpT.take 10 rfl (by kernel_rfl) (fun _ _ _ h => h) rfl (fun w' hw' => by go_simp <;> with_reducible rfl) ?_
                  simp only [Act.put, List.setIfInBounds_toArray, List.set_cons_zero, List.set_cons_succ]
                  refine wpT.take 11 rfl (by kernel_rfl) (fun _ _ _ h => h) rfl (fun w' hw' => by go_simp <;> with_reducible rfl) ?_
                  simp only [Act.put, List.setIfInBounds_toArray, List.set_cons_zero, List.set_cons_succ]
                  refine wpT.ld 12 rfl (by kernel_rfl) (fun _ _ _ _ h => h) rfl _ _ rfl (by kernel_rfl) ⟨Bx, 0, none⟩ rfl _ (y0d) (fun h => h) ?_
                  simp only [Act.put, List.setIfInBounds_toArray, List.set_cons_zero, List.set_cons_succ]
                  refine wpT.ld 13 rfl (by kernel_rfl) (fun _ _ _ _ h => h) rfl _ _ rfl (by kernel_rfl) ⟨bl, 0, none⟩ rfl _ (cld) (fun h => h) ?_
                  simp only [Act.put, List.setIfInBounds_toArray, List.set_cons_zero, List.set_cons_succ]
                  refine wpT.take (v := .bool false) 14 rfl (by kernel_rfl) (fun _ _ _ h => h) rfl (fun w' hw' => by have hq := hcmp; go_simp <;> first | with_reducible rfl | simp [hq]) ?_
                  simp only [Act.put, List.setIfInBounds_toArray, List.set_cons_zero, List.set_cons_succ]
                  refine wpT.take 15 rfl (by kernel_rfl) (fun _ _ _ h => h) rfl (fun w' hw' => by go_simp <;> with_reducible rfl) ?_
                  simp only [Act.put, List.setIfInBounds_toArray, List.set_cons_zero, List.set_cons_succ]
                  refine wpT.done (by kernel_rfl) ?_
                  refine nopo_normal ?_
                  have hbl2 := cq.heap HB1.out (fun h => h)
                  have hbn2 := cq.heap HB2.out (fun h => h)
                  have cn2 : Wd.cell? ⟨bn, 0, none⟩ = some (.int .i64 pl) := by rw [cell_of_heap hbn2, HPL.out]; rfl
                  have fl2 : Wd.frozen? ⟨bl, 0, none⟩ = false := frozen_of_heap hbl2 0
                  have fn2 : Wd.frozen? ⟨bn, 0, none⟩ = false := frozen_of_heap hbn2 0
                  have hne : ¬ bl = bn := by have := ORD.out; omega
                  have HBL2 := Lib.hid hbl2
                  have HBN2 := Lib.hid hbn2
                  clear hbl2 hbn2
                  gi_wp2
                  have cS1 : Chg (fun q => q = bl ∨ q = bn) Wd (Wd.setCell ⟨bl, 0, none⟩ (.string ⟨xn.toArray⟩)) := (Chg.refl (fun q => q = bl ∨ q = bn) Wd).setCell (p := ⟨bl, 0, none⟩) (fun _ => .inl rfl) _
                  have cS2 : Chg (fun q => q = bl ∨ q = bn) Wd ((Wd.setCell ⟨bl, 0, none⟩ (.string ⟨xn.toArray⟩)).setCell ⟨bn, 0, none⟩ (.int .i64 ((pl : Int) + 1))) := cS1.setCell (p := ⟨bn, 0, none⟩) (fun _ => .inr rfl) _
                  have cN : Chg (fun q => q = bl ∨ q = bn) W ((Wd.setCell ⟨bl, 0, none⟩ (.string ⟨xn.toArray⟩)).setCell ⟨bn, 0, none⟩ (.int .i64 ((pl : Int) + 1))) := (cq.mono (fun _ _ h => h.elim)).trans cS2
                  have hn1 : (Wd.setCell ⟨bl, 0, none⟩ (.string ⟨xn.toArray⟩)).heap[bn]? = _ := (show Chg (fun q => q = bl) Wd (Wd.setCell ⟨bl, 0, none⟩ (.string ⟨xn.toArray⟩)) from (Chg.refl (fun q => q = bl) Wd).setCell (p := ⟨bl, 0, none⟩) (fun _ => rfl) _).heap HBN2.out (fun e => hne e.symm)
                  have hl2 : ((Wd.setCell ⟨bl, 0, none⟩ (.string ⟨xn.toArray⟩)).setCell ⟨bn, 0, none⟩ (.int .i64 ((pl : Int) + 1))).heap[bl]? = _ := ((Chg.refl (fun q => q = bn) (Wd.setCell ⟨bl, 0, none⟩ (.string ⟨xn.toArray⟩))).setCell (p := ⟨bn, 0, none⟩) (fun _ => rfl) _).heap (Cat.heap_setCell_same HBL2.out 0 (.string ⟨xn.toArray⟩)) hne
                  have hn2 := Cat.heap_setCell_same hn1 0 (.int .i64 ((pl : Int) + 1))
                  have hz3 := HB3.out.size
                  have hO := ORD.out
                  refine ⟨keepsFrom_chg cN (fun q hq => by omega), ⟨fun k hk ht => cN.block k (by omega) ht, fun k c t f hB h => cN.heap h (fun e => by omega)⟩, ?_, ?_, HB3.out.trans cN⟩
                  · rw [List.map_append, List.map_cons, List.map_nil, lastN_snoc]; exact hl2
                  · rw [List.length_append, List.length_singleton, ← HPL.out, show ((pl + 1 : Nat) : Int) = (pl : Int) + 1 by omega]; exact hn2
              case done =>
                rintro Df ys W hD rfl ⟨v1, v2, v3⟩ hK
                have cW : Chg (fun _ => False) wc W := C5.out.new v3 (fun q h => by have := ORD.out; omega)
                have hlt9 := HMX2.out.lt
                have hz9 := C5.out.size
                have HMK := Lib.hid ((HMX2.out.same cW).mark (B := w5.heap.size) (X := Df) (fun q hq => by have := (Array.getElem?_eq_some_iff.1 (HMX2.out.dsd q hq)).1; omega) (by omega) (fun q hq => by have := HMX2.out.own.lt q hq; omega) hD hK (by have := HMX2.out.chg.size; omega))
                have cn : W.cell? ⟨bn, 0, none⟩ = some (.int .i64 j) := by rw [cell_of_heap v2, HLN.out, ← HML'.out]; rfl
                have q10c : W.cell? ⟨q10, 0, none⟩ = some (.slice na j nc) := by rw [cell_of_heap HMK.out.c10]; rfl
                have hkI : (k : Int) < n := by omega
                clear v1 v2 v3 cW hlt9 hz9 hK
                dsimp only
                go_wp2_with fail
                exact ⟨⟨Df :: DS, k + 1, D', nn', M', .slice na j nc, _, _, _, _, _, _, _, _, _, _, _, _, _, _, _, _, _, _, _, _, _, _, _, _, _, _, _, _, _, _, _, _, _, _, _, _, _, _, _, _, _, _, _, _, _, _, _, _, _, _, _, _, _, _, _, _, _, _, _, _, _, _, _, _, _, _, _, _, _, _, _, _, _, _, _, _, _, _, _, _, _, _, _, _, _, _, _, _, _, _, _, _, _, _, _, _, _, _, _, _, _, _, _, _, _, _, _, _, _, _, _, _, _, _, _, _, _, _, _, _, _, _, _, _, _, _, _, _, _, _, _, _, _, _, _, _, _, _, _, _, _, _, _, _, _, _, _, _, _, _, _, _, _, _, _, _, _, _, _, _, _, _, _, _, _, _, _, _, _, _, _, _, _, _, _, _, _, _, _, _, _, _, _, _, _, _, _, _, _, _, _, _, _, _, _, _, _, _, _, _, _, _, _, _, _, _, _, _, _, _, _, _, _, _, _, _, _, _, _, _, _, _, _, _, _, _, _, _, _, _, _, _, _, _, _, _, _, _, _, _, _, _, _, _, _, by omega, by omega, HMK.out, hTM'.out, rfl⟩, by simp [intOf]; omega⟩
              case stop =>
                rintro Df c pre W hD ⟨k9, _, rfl⟩ h _
                exfalso
                refine h ?_
                rw [List.map_take]
                exact HPW.out.sublist (List.take_sublist _ _)
    · obtain rfl : k = n := by omega
      have q8c : wo.cell? ⟨w.heap.size + 1, 0, none⟩ = some (.bool false) := by rw [cell_of_heap hHM.out.c8]; rfl
      have q8f : wo.frozen? ⟨w.heap.size + 1, 0, none⟩ = false := frozen_of_heap hHM.out.c8 0
      go_wp2_with fail
      gi_wp2
      refine hHM.out.leave ((Chg.refl (fun k => k = w.heap.size + 1) wo).setCell (p := ⟨w.heap.size + 1, 0, none⟩) (fun _ => rfl) _) (Cat.heap_setCell_same hHM.out.c8 0 _) ?_
      intro W hW
      exact resP _ _ (w.heap.size + 1) rfl hW


end Go.Proofs.Ytjhkhdockiocgaa
