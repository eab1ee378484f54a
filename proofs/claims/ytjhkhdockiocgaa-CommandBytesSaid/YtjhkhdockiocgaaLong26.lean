/- Contracts: catacomblaw26.long, command.Erases. -/
import Derived.Test.YtjhkhdockiocgaaIts
namespace Go.Proofs.Ytjhkhdockiocgaa
open Go.RowKit Go.Cat

set_option maxRecDepth 100000 in
set_option maxHeartbeats 2000000 in
theorem long_0 (x : Cmd) (ps : List Pnt) (w : World) (hv : Reads w 2 x.pv ps.length (ps.flatMap Pnt.cells)) (hk : x.kind = 0) :
    Calls Try.prog 21 #[.agg #[.int .i64 x.kind, .string ⟨x.tenant.toArray⟩, .string ⟨x.series.toArray⟩, .string ⟨x.name.toArray⟩, x.pv, .int .i64 x.rlo, .int .i64 x.rhi, .int .i64 x.praw, .int .i64 x.pmid, .int .i64 x.plong, .string ⟨x.hname.toArray⟩, .string ⟨x.hser.toArray⟩, .int .i64 x.hlo, .int .i64 x.hhi, .int .i64 x.bytes, .int .i64 x.count, .int .i64 x.at_]] w fun e w' => ∃ r : Bool, e = .returned (.bool r) ∧ (r = true ↔ 255 < x.tenant.length) ∧ Chg (fun _ => False) w w' := by
  obtain ⟨n, hnn⟩ : ∃ n, n = ps.length := ⟨_, rfl⟩
  rw [← hnn] at hv
  obtain ⟨va, vc, hpv⟩ := hv.form
  obtain ⟨w0, hw0⟩ : ∃ w0, w0 = w.alloc (.cells #[.int .i64 x.kind, .string ⟨x.tenant.toArray⟩, .string ⟨x.series.toArray⟩, .string ⟨x.name.toArray⟩, x.pv, .int .i64 x.rlo, .int .i64 x.rhi, .int .i64 x.praw, .int .i64 x.pmid, .int .i64 x.plong, .string ⟨x.hname.toArray⟩, .string ⟨x.hser.toArray⟩, .int .i64 x.hlo, .int .i64 x.hhi, .int .i64 x.bytes, .int .i64 x.count, .int .i64 x.at_] 30) := ⟨_, rfl⟩
  have c0 : Hid (Chg (fun _ => False) w w0) := by rw [hw0]; exact (Chg.refl _ w).alloc _
  have HX0 : Hid (w0.heap[w.heap.size]? = some (.cells x.cells.toArray 30 (0, 0))) := by rw [hw0]; exact heap_at_new _ _ _ rfl
  have q0 : w0.cell? ⟨w.heap.size, 0, none⟩ = some (.int .i64 0) := cell_cmd HX0.out 0 _ (by rw [← hk]; rfl)
  have q1 : w0.cell? ⟨w.heap.size, 1, none⟩ = some (.string ⟨x.tenant.toArray⟩) := cell_cmd HX0.out 1 _ rfl
  have HW0 := Lib.hid hw0
  clear hv hw0 hk hpv hnn
  have b0 : (255 < x.tenant.length) ∨ ¬ (255 < x.tenant.length) := Decidable.em _
  rcases b0 with g0 | g0
  · have i0 : (255 : Int) < (x.tenant.length : Nat) := by omega
    go_enter Try.func21, Try.ntmps21
    go_upto_region 1 with fail
    rw [← HW0.out]
    clear HW0
    go_wp2_with fail
    all_goals
      go_ret
      first | exact ⟨true, rfl, by simp [g0], c0.out⟩ | exact ⟨rfl, by simp [g0], c0.out⟩ | exact ⟨rfl, by omega, c0.out⟩ | exact ⟨rfl, c0.out⟩
  · have i0 : ¬ (255 : Int) < (x.tenant.length : Nat) := by omega
    go_enter Try.func21, Try.ntmps21
    go_upto_region 1 with fail
    rw [← HW0.out]
    clear HW0
    go_wp2_with fail
    all_goals
      go_ret
      first | exact ⟨false, rfl, by simp [g0], c0.out⟩ | exact ⟨rfl, by simp [g0], c0.out⟩ | exact ⟨rfl, by omega, c0.out⟩ | exact ⟨rfl, c0.out⟩

set_option maxRecDepth 100000 in
set_option maxHeartbeats 2000000 in
theorem long_1 (x : Cmd) (ps : List Pnt) (w : World) (hv : Reads w 2 x.pv ps.length (ps.flatMap Pnt.cells)) (hk : x.kind = 1) :
    Calls Try.prog 21 #[.agg #[.int .i64 x.kind, .string ⟨x.tenant.toArray⟩, .string ⟨x.series.toArray⟩, .string ⟨x.name.toArray⟩, x.pv, .int .i64 x.rlo, .int .i64 x.rhi, .int .i64 x.praw, .int .i64 x.pmid, .int .i64 x.plong, .string ⟨x.hname.toArray⟩, .string ⟨x.hser.toArray⟩, .int .i64 x.hlo, .int .i64 x.hhi, .int .i64 x.bytes, .int .i64 x.count, .int .i64 x.at_]] w fun e w' => ∃ r : Bool, e = .returned (.bool r) ∧ (r = true ↔ 255 < x.tenant.length) ∧ Chg (fun _ => False) w w' := by
  obtain ⟨n, hnn⟩ : ∃ n, n = ps.length := ⟨_, rfl⟩
  rw [← hnn] at hv
  obtain ⟨va, vc, hpv⟩ := hv.form
  obtain ⟨w0, hw0⟩ : ∃ w0, w0 = w.alloc (.cells #[.int .i64 x.kind, .string ⟨x.tenant.toArray⟩, .string ⟨x.series.toArray⟩, .string ⟨x.name.toArray⟩, x.pv, .int .i64 x.rlo, .int .i64 x.rhi, .int .i64 x.praw, .int .i64 x.pmid, .int .i64 x.plong, .string ⟨x.hname.toArray⟩, .string ⟨x.hser.toArray⟩, .int .i64 x.hlo, .int .i64 x.hhi, .int .i64 x.bytes, .int .i64 x.count, .int .i64 x.at_] 30) := ⟨_, rfl⟩
  have c0 : Hid (Chg (fun _ => False) w w0) := by rw [hw0]; exact (Chg.refl _ w).alloc _
  have HX0 : Hid (w0.heap[w.heap.size]? = some (.cells x.cells.toArray 30 (0, 0))) := by rw [hw0]; exact heap_at_new _ _ _ rfl
  have q0 : w0.cell? ⟨w.heap.size, 0, none⟩ = some (.int .i64 1) := cell_cmd HX0.out 0 _ (by rw [← hk]; rfl)
  have q1 : w0.cell? ⟨w.heap.size, 1, none⟩ = some (.string ⟨x.tenant.toArray⟩) := cell_cmd HX0.out 1 _ rfl
  have HW0 := Lib.hid hw0
  clear hv hw0 hk hpv hnn
  have b0 : (255 < x.tenant.length) ∨ ¬ (255 < x.tenant.length) := Decidable.em _
  rcases b0 with g0 | g0
  · have i0 : (255 : Int) < (x.tenant.length : Nat) := by omega
    go_enter Try.func21, Try.ntmps21
    go_upto_region 1 with fail
    rw [← HW0.out]
    clear HW0
    go_wp2_with fail
    all_goals
      go_ret
      first | exact ⟨true, rfl, by simp [g0], c0.out⟩ | exact ⟨rfl, by simp [g0], c0.out⟩ | exact ⟨rfl, by omega, c0.out⟩ | exact ⟨rfl, c0.out⟩
  · have i0 : ¬ (255 : Int) < (x.tenant.length : Nat) := by omega
    go_enter Try.func21, Try.ntmps21
    go_upto_region 1 with fail
    rw [← HW0.out]
    clear HW0
    go_wp2_with fail
    all_goals
      go_ret
      first | exact ⟨false, rfl, by simp [g0], c0.out⟩ | exact ⟨rfl, by simp [g0], c0.out⟩ | exact ⟨rfl, by omega, c0.out⟩ | exact ⟨rfl, c0.out⟩

set_option maxRecDepth 100000 in
set_option maxHeartbeats 2000000 in
theorem long_2 (x : Cmd) (ps : List Pnt) (w : World) (hv : Reads w 2 x.pv ps.length (ps.flatMap Pnt.cells)) (hk : x.kind = 2) :
    Calls Try.prog 21 #[.agg #[.int .i64 x.kind, .string ⟨x.tenant.toArray⟩, .string ⟨x.series.toArray⟩, .string ⟨x.name.toArray⟩, x.pv, .int .i64 x.rlo, .int .i64 x.rhi, .int .i64 x.praw, .int .i64 x.pmid, .int .i64 x.plong, .string ⟨x.hname.toArray⟩, .string ⟨x.hser.toArray⟩, .int .i64 x.hlo, .int .i64 x.hhi, .int .i64 x.bytes, .int .i64 x.count, .int .i64 x.at_]] w fun e w' => ∃ r : Bool, e = .returned (.bool r) ∧ (r = true ↔ 255 < x.tenant.length) ∧ Chg (fun _ => False) w w' := by
  obtain ⟨n, hnn⟩ : ∃ n, n = ps.length := ⟨_, rfl⟩
  rw [← hnn] at hv
  obtain ⟨va, vc, hpv⟩ := hv.form
  obtain ⟨w0, hw0⟩ : ∃ w0, w0 = w.alloc (.cells #[.int .i64 x.kind, .string ⟨x.tenant.toArray⟩, .string ⟨x.series.toArray⟩, .string ⟨x.name.toArray⟩, x.pv, .int .i64 x.rlo, .int .i64 x.rhi, .int .i64 x.praw, .int .i64 x.pmid, .int .i64 x.plong, .string ⟨x.hname.toArray⟩, .string ⟨x.hser.toArray⟩, .int .i64 x.hlo, .int .i64 x.hhi, .int .i64 x.bytes, .int .i64 x.count, .int .i64 x.at_] 30) := ⟨_, rfl⟩
  have c0 : Hid (Chg (fun _ => False) w w0) := by rw [hw0]; exact (Chg.refl _ w).alloc _
  have HX0 : Hid (w0.heap[w.heap.size]? = some (.cells x.cells.toArray 30 (0, 0))) := by rw [hw0]; exact heap_at_new _ _ _ rfl
  have q0 : w0.cell? ⟨w.heap.size, 0, none⟩ = some (.int .i64 2) := cell_cmd HX0.out 0 _ (by rw [← hk]; rfl)
  have q1 : w0.cell? ⟨w.heap.size, 1, none⟩ = some (.string ⟨x.tenant.toArray⟩) := cell_cmd HX0.out 1 _ rfl
  have HW0 := Lib.hid hw0
  clear hv hw0 hk hpv hnn
  have b0 : (255 < x.tenant.length) ∨ ¬ (255 < x.tenant.length) := Decidable.em _
  rcases b0 with g0 | g0
  · have i0 : (255 : Int) < (x.tenant.length : Nat) := by omega
    go_enter Try.func21, Try.ntmps21
    go_upto_region 1 with fail
    rw [← HW0.out]
    clear HW0
    go_wp2_with fail
    all_goals
      go_ret
      first | exact ⟨true, rfl, by simp [g0], c0.out⟩ | exact ⟨rfl, by simp [g0], c0.out⟩ | exact ⟨rfl, by omega, c0.out⟩ | exact ⟨rfl, c0.out⟩
  · have i0 : ¬ (255 : Int) < (x.tenant.length : Nat) := by omega
    go_enter Try.func21, Try.ntmps21
    go_upto_region 1 with fail
    rw [← HW0.out]
    clear HW0
    go_wp2_with fail
    all_goals
      go_ret
      first | exact ⟨false, rfl, by simp [g0], c0.out⟩ | exact ⟨rfl, by simp [g0], c0.out⟩ | exact ⟨rfl, by omega, c0.out⟩ | exact ⟨rfl, c0.out⟩

set_option maxRecDepth 100000 in
set_option maxHeartbeats 2000000 in
theorem long_3 (x : Cmd) (ps : List Pnt) (w : World) (hv : Reads w 2 x.pv ps.length (ps.flatMap Pnt.cells)) (hk : x.kind = 3) :
    Calls Try.prog 21 #[.agg #[.int .i64 x.kind, .string ⟨x.tenant.toArray⟩, .string ⟨x.series.toArray⟩, .string ⟨x.name.toArray⟩, x.pv, .int .i64 x.rlo, .int .i64 x.rhi, .int .i64 x.praw, .int .i64 x.pmid, .int .i64 x.plong, .string ⟨x.hname.toArray⟩, .string ⟨x.hser.toArray⟩, .int .i64 x.hlo, .int .i64 x.hhi, .int .i64 x.bytes, .int .i64 x.count, .int .i64 x.at_]] w fun e w' => ∃ r : Bool, e = .returned (.bool r) ∧ (r = true ↔ 255 < x.tenant.length ∨ 255 < x.series.length ∨ 255 < ps.length) ∧ Chg (fun _ => False) w w' := by
  obtain ⟨n, hnn⟩ : ∃ n, n = ps.length := ⟨_, rfl⟩
  rw [← hnn] at hv ⊢
  obtain ⟨va, vc, hpv⟩ := hv.form
  obtain ⟨w0, hw0⟩ : ∃ w0, w0 = w.alloc (.cells #[.int .i64 x.kind, .string ⟨x.tenant.toArray⟩, .string ⟨x.series.toArray⟩, .string ⟨x.name.toArray⟩, x.pv, .int .i64 x.rlo, .int .i64 x.rhi, .int .i64 x.praw, .int .i64 x.pmid, .int .i64 x.plong, .string ⟨x.hname.toArray⟩, .string ⟨x.hser.toArray⟩, .int .i64 x.hlo, .int .i64 x.hhi, .int .i64 x.bytes, .int .i64 x.count, .int .i64 x.at_] 30) := ⟨_, rfl⟩
  have c0 : Hid (Chg (fun _ => False) w w0) := by rw [hw0]; exact (Chg.refl _ w).alloc _
  have HX0 : Hid (w0.heap[w.heap.size]? = some (.cells x.cells.toArray 30 (0, 0))) := by rw [hw0]; exact heap_at_new _ _ _ rfl
  have q0 : w0.cell? ⟨w.heap.size, 0, none⟩ = some (.int .i64 3) := cell_cmd HX0.out 0 _ (by rw [← hk]; rfl)
  have q1 : w0.cell? ⟨w.heap.size, 1, none⟩ = some (.string ⟨x.tenant.toArray⟩) := cell_cmd HX0.out 1 _ rfl
  have q2 : w0.cell? ⟨w.heap.size, 2, none⟩ = some (.string ⟨x.series.toArray⟩) := cell_cmd HX0.out 2 _ rfl
  have q4 : w0.cell? ⟨w.heap.size, 4, none⟩ = some (.slice va n vc) := cell_cmd HX0.out 4 _ (by show some x.pv = _; rw [hpv])
  have HW0 := Lib.hid hw0
  clear hv hw0 hk hpv hnn
  have b0 : (255 < x.tenant.length) ∨ ¬ (255 < x.tenant.length) := Decidable.em _
  have b1 : (255 < x.series.length) ∨ ¬ (255 < x.series.length) := Decidable.em _
  have b2 : (255 < n) ∨ ¬ (255 < n) := Decidable.em _
  rcases b0 with g0 | g0
  · have i0 : (255 : Int) < (x.tenant.length : Nat) := by omega
    go_enter Try.func21, Try.ntmps21
    go_upto_region 1 with fail
    rw [← HW0.out]
    clear HW0
    go_wp2_with fail
    all_goals
      go_ret
      first | exact ⟨true, rfl, by simp [g0], c0.out⟩ | exact ⟨rfl, by simp [g0], c0.out⟩ | exact ⟨rfl, by omega, c0.out⟩ | exact ⟨rfl, c0.out⟩
  · have i0 : ¬ (255 : Int) < (x.tenant.length : Nat) := by omega
    rcases b1 with g1 | g1
    · have i1 : (255 : Int) < (x.series.length : Nat) := by omega
      go_enter Try.func21, Try.ntmps21
      go_upto_region 1 with fail
      rw [← HW0.out]
      clear HW0
      go_wp2_with fail
      all_goals
        go_ret
        first | exact ⟨true, rfl, by simp [g0, g1], c0.out⟩ | exact ⟨rfl, by simp [g0, g1], c0.out⟩ | exact ⟨rfl, by omega, c0.out⟩ | exact ⟨rfl, c0.out⟩
    · have i1 : ¬ (255 : Int) < (x.series.length : Nat) := by omega
      rcases b2 with g2 | g2
      · have i2 : (255 : Int) < (n : Nat) := by omega
        go_enter Try.func21, Try.ntmps21
        go_upto_region 1 with fail
        rw [← HW0.out]
        clear HW0
        go_wp2_with fail
        all_goals
          go_ret
          first | exact ⟨true, rfl, by simp [g0, g1, g2], c0.out⟩ | exact ⟨rfl, by simp [g0, g1, g2], c0.out⟩ | exact ⟨rfl, by omega, c0.out⟩ | exact ⟨rfl, c0.out⟩
      · have i2 : ¬ (255 : Int) < (n : Nat) := by omega
        go_enter Try.func21, Try.ntmps21
        go_upto_region 1 with fail
        rw [← HW0.out]
        clear HW0
        go_wp2_with fail
        all_goals
          go_ret
          first | exact ⟨false, rfl, by simp [g0, g1, g2], c0.out⟩ | exact ⟨rfl, by simp [g0, g1, g2], c0.out⟩ | exact ⟨rfl, by omega, c0.out⟩ | exact ⟨rfl, c0.out⟩

set_option maxRecDepth 100000 in
set_option maxHeartbeats 2000000 in
theorem long_4 (x : Cmd) (ps : List Pnt) (w : World) (hv : Reads w 2 x.pv ps.length (ps.flatMap Pnt.cells)) (hk : x.kind = 4) :
    Calls Try.prog 21 #[.agg #[.int .i64 x.kind, .string ⟨x.tenant.toArray⟩, .string ⟨x.series.toArray⟩, .string ⟨x.name.toArray⟩, x.pv, .int .i64 x.rlo, .int .i64 x.rhi, .int .i64 x.praw, .int .i64 x.pmid, .int .i64 x.plong, .string ⟨x.hname.toArray⟩, .string ⟨x.hser.toArray⟩, .int .i64 x.hlo, .int .i64 x.hhi, .int .i64 x.bytes, .int .i64 x.count, .int .i64 x.at_]] w fun e w' => ∃ r : Bool, e = .returned (.bool r) ∧ (r = true ↔ 255 < x.tenant.length) ∧ Chg (fun _ => False) w w' := by
  obtain ⟨n, hnn⟩ : ∃ n, n = ps.length := ⟨_, rfl⟩
  rw [← hnn] at hv
  obtain ⟨va, vc, hpv⟩ := hv.form
  obtain ⟨w0, hw0⟩ : ∃ w0, w0 = w.alloc (.cells #[.int .i64 x.kind, .string ⟨x.tenant.toArray⟩, .string ⟨x.series.toArray⟩, .string ⟨x.name.toArray⟩, x.pv, .int .i64 x.rlo, .int .i64 x.rhi, .int .i64 x.praw, .int .i64 x.pmid, .int .i64 x.plong, .string ⟨x.hname.toArray⟩, .string ⟨x.hser.toArray⟩, .int .i64 x.hlo, .int .i64 x.hhi, .int .i64 x.bytes, .int .i64 x.count, .int .i64 x.at_] 30) := ⟨_, rfl⟩
  have c0 : Hid (Chg (fun _ => False) w w0) := by rw [hw0]; exact (Chg.refl _ w).alloc _
  have HX0 : Hid (w0.heap[w.heap.size]? = some (.cells x.cells.toArray 30 (0, 0))) := by rw [hw0]; exact heap_at_new _ _ _ rfl
  have q0 : w0.cell? ⟨w.heap.size, 0, none⟩ = some (.int .i64 4) := cell_cmd HX0.out 0 _ (by rw [← hk]; rfl)
  have q1 : w0.cell? ⟨w.heap.size, 1, none⟩ = some (.string ⟨x.tenant.toArray⟩) := cell_cmd HX0.out 1 _ rfl
  have HW0 := Lib.hid hw0
  clear hv hw0 hk hpv hnn
  have b0 : (255 < x.tenant.length) ∨ ¬ (255 < x.tenant.length) := Decidable.em _
  rcases b0 with g0 | g0
  · have i0 : (255 : Int) < (x.tenant.length : Nat) := by omega
    go_enter Try.func21, Try.ntmps21
    go_upto_region 1 with fail
    rw [← HW0.out]
    clear HW0
    go_wp2_with fail
    all_goals
      go_ret
      first | exact ⟨true, rfl, by simp [g0], c0.out⟩ | exact ⟨rfl, by simp [g0], c0.out⟩ | exact ⟨rfl, by omega, c0.out⟩ | exact ⟨rfl, c0.out⟩
  · have i0 : ¬ (255 : Int) < (x.tenant.length : Nat) := by omega
    go_enter Try.func21, Try.ntmps21
    go_upto_region 1 with fail
    rw [← HW0.out]
    clear HW0
    go_wp2_with fail
    all_goals
      go_ret
      first | exact ⟨false, rfl, by simp [g0], c0.out⟩ | exact ⟨rfl, by simp [g0], c0.out⟩ | exact ⟨rfl, by omega, c0.out⟩ | exact ⟨rfl, c0.out⟩

set_option maxRecDepth 100000 in
set_option maxHeartbeats 2000000 in
theorem long_5 (x : Cmd) (ps : List Pnt) (w : World) (hv : Reads w 2 x.pv ps.length (ps.flatMap Pnt.cells)) (hk : x.kind = 5) :
    Calls Try.prog 21 #[.agg #[.int .i64 x.kind, .string ⟨x.tenant.toArray⟩, .string ⟨x.series.toArray⟩, .string ⟨x.name.toArray⟩, x.pv, .int .i64 x.rlo, .int .i64 x.rhi, .int .i64 x.praw, .int .i64 x.pmid, .int .i64 x.plong, .string ⟨x.hname.toArray⟩, .string ⟨x.hser.toArray⟩, .int .i64 x.hlo, .int .i64 x.hhi, .int .i64 x.bytes, .int .i64 x.count, .int .i64 x.at_]] w fun e w' => ∃ r : Bool, e = .returned (.bool r) ∧ (r = true ↔ 255 < x.tenant.length ∨ 255 < x.hname.length ∨ 255 < x.hser.length) ∧ Chg (fun _ => False) w w' := by
  obtain ⟨n, hnn⟩ : ∃ n, n = ps.length := ⟨_, rfl⟩
  rw [← hnn] at hv
  obtain ⟨va, vc, hpv⟩ := hv.form
  obtain ⟨w0, hw0⟩ : ∃ w0, w0 = w.alloc (.cells #[.int .i64 x.kind, .string ⟨x.tenant.toArray⟩, .string ⟨x.series.toArray⟩, .string ⟨x.name.toArray⟩, x.pv, .int .i64 x.rlo, .int .i64 x.rhi, .int .i64 x.praw, .int .i64 x.pmid, .int .i64 x.plong, .string ⟨x.hname.toArray⟩, .string ⟨x.hser.toArray⟩, .int .i64 x.hlo, .int .i64 x.hhi, .int .i64 x.bytes, .int .i64 x.count, .int .i64 x.at_] 30) := ⟨_, rfl⟩
  have c0 : Hid (Chg (fun _ => False) w w0) := by rw [hw0]; exact (Chg.refl _ w).alloc _
  have HX0 : Hid (w0.heap[w.heap.size]? = some (.cells x.cells.toArray 30 (0, 0))) := by rw [hw0]; exact heap_at_new _ _ _ rfl
  have q0 : w0.cell? ⟨w.heap.size, 0, none⟩ = some (.int .i64 5) := cell_cmd HX0.out 0 _ (by rw [← hk]; rfl)
  have q1 : w0.cell? ⟨w.heap.size, 1, none⟩ = some (.string ⟨x.tenant.toArray⟩) := cell_cmd HX0.out 1 _ rfl
  have q10 : w0.cell? ⟨w.heap.size, 10, none⟩ = some (.string ⟨x.hname.toArray⟩) := cell_cmd HX0.out 10 _ rfl
  have q11 : w0.cell? ⟨w.heap.size, 11, none⟩ = some (.string ⟨x.hser.toArray⟩) := cell_cmd HX0.out 11 _ rfl
  have HW0 := Lib.hid hw0
  clear hv hw0 hk hpv hnn
  have b0 : (255 < x.tenant.length) ∨ ¬ (255 < x.tenant.length) := Decidable.em _
  have b1 : (255 < x.hname.length) ∨ ¬ (255 < x.hname.length) := Decidable.em _
  have b2 : (255 < x.hser.length) ∨ ¬ (255 < x.hser.length) := Decidable.em _
  rcases b0 with g0 | g0
  · have i0 : (255 : Int) < (x.tenant.length : Nat) := by omega
    go_enter Try.func21, Try.ntmps21
    go_upto_region 1 with fail
    rw [← HW0.out]
    clear HW0
    go_wp2_with fail
    all_goals
      go_ret
      first | exact ⟨true, rfl, by simp [g0], c0.out⟩ | exact ⟨rfl, by simp [g0], c0.out⟩ | exact ⟨rfl, by omega, c0.out⟩ | exact ⟨rfl, c0.out⟩
  · have i0 : ¬ (255 : Int) < (x.tenant.length : Nat) := by omega
    rcases b1 with g1 | g1
    · have i1 : (255 : Int) < (x.hname.length : Nat) := by omega
      go_enter Try.func21, Try.ntmps21
      go_upto_region 1 with fail
      rw [← HW0.out]
      clear HW0
      go_wp2_with fail
      all_goals
        go_ret
        first | exact ⟨true, rfl, by simp [g0, g1], c0.out⟩ | exact ⟨rfl, by simp [g0, g1], c0.out⟩ | exact ⟨rfl, by omega, c0.out⟩ | exact ⟨rfl, c0.out⟩
    · have i1 : ¬ (255 : Int) < (x.hname.length : Nat) := by omega
      rcases b2 with g2 | g2
      · have i2 : (255 : Int) < (x.hser.length : Nat) := by omega
        go_enter Try.func21, Try.ntmps21
        go_upto_region 1 with fail
        rw [← HW0.out]
        clear HW0
        go_wp2_with fail
        all_goals
          go_ret
          first | exact ⟨true, rfl, by simp [g0, g1, g2], c0.out⟩ | exact ⟨rfl, by simp [g0, g1, g2], c0.out⟩ | exact ⟨rfl, by omega, c0.out⟩ | exact ⟨rfl, c0.out⟩
      · have i2 : ¬ (255 : Int) < (x.hser.length : Nat) := by omega
        go_enter Try.func21, Try.ntmps21
        go_upto_region 1 with fail
        rw [← HW0.out]
        clear HW0
        go_wp2_with fail
        all_goals
          go_ret
          first | exact ⟨false, rfl, by simp [g0, g1, g2], c0.out⟩ | exact ⟨rfl, by simp [g0, g1, g2], c0.out⟩ | exact ⟨rfl, by omega, c0.out⟩ | exact ⟨rfl, c0.out⟩

set_option maxRecDepth 100000 in
set_option maxHeartbeats 2000000 in
theorem long_6 (x : Cmd) (ps : List Pnt) (w : World) (hv : Reads w 2 x.pv ps.length (ps.flatMap Pnt.cells)) (hk : x.kind = 6) :
    Calls Try.prog 21 #[.agg #[.int .i64 x.kind, .string ⟨x.tenant.toArray⟩, .string ⟨x.series.toArray⟩, .string ⟨x.name.toArray⟩, x.pv, .int .i64 x.rlo, .int .i64 x.rhi, .int .i64 x.praw, .int .i64 x.pmid, .int .i64 x.plong, .string ⟨x.hname.toArray⟩, .string ⟨x.hser.toArray⟩, .int .i64 x.hlo, .int .i64 x.hhi, .int .i64 x.bytes, .int .i64 x.count, .int .i64 x.at_]] w fun e w' => ∃ r : Bool, e = .returned (.bool r) ∧ (r = true ↔ 255 < x.tenant.length ∨ 255 < x.name.length) ∧ Chg (fun _ => False) w w' := by
  obtain ⟨n, hnn⟩ : ∃ n, n = ps.length := ⟨_, rfl⟩
  rw [← hnn] at hv
  obtain ⟨va, vc, hpv⟩ := hv.form
  obtain ⟨w0, hw0⟩ : ∃ w0, w0 = w.alloc (.cells #[.int .i64 x.kind, .string ⟨x.tenant.toArray⟩, .string ⟨x.series.toArray⟩, .string ⟨x.name.toArray⟩, x.pv, .int .i64 x.rlo, .int .i64 x.rhi, .int .i64 x.praw, .int .i64 x.pmid, .int .i64 x.plong, .string ⟨x.hname.toArray⟩, .string ⟨x.hser.toArray⟩, .int .i64 x.hlo, .int .i64 x.hhi, .int .i64 x.bytes, .int .i64 x.count, .int .i64 x.at_] 30) := ⟨_, rfl⟩
  have c0 : Hid (Chg (fun _ => False) w w0) := by rw [hw0]; exact (Chg.refl _ w).alloc _
  have HX0 : Hid (w0.heap[w.heap.size]? = some (.cells x.cells.toArray 30 (0, 0))) := by rw [hw0]; exact heap_at_new _ _ _ rfl
  have q0 : w0.cell? ⟨w.heap.size, 0, none⟩ = some (.int .i64 6) := cell_cmd HX0.out 0 _ (by rw [← hk]; rfl)
  have q1 : w0.cell? ⟨w.heap.size, 1, none⟩ = some (.string ⟨x.tenant.toArray⟩) := cell_cmd HX0.out 1 _ rfl
  have q3 : w0.cell? ⟨w.heap.size, 3, none⟩ = some (.string ⟨x.name.toArray⟩) := cell_cmd HX0.out 3 _ rfl
  have HW0 := Lib.hid hw0
  clear hv hw0 hk hpv hnn
  have b0 : (255 < x.tenant.length) ∨ ¬ (255 < x.tenant.length) := Decidable.em _
  have b1 : (255 < x.name.length) ∨ ¬ (255 < x.name.length) := Decidable.em _
  rcases b0 with g0 | g0
  · have i0 : (255 : Int) < (x.tenant.length : Nat) := by omega
    go_enter Try.func21, Try.ntmps21
    go_upto_region 1 with fail
    rw [← HW0.out]
    clear HW0
    go_wp2_with fail
    all_goals
      go_ret
      first | exact ⟨true, rfl, by simp [g0], c0.out⟩ | exact ⟨rfl, by simp [g0], c0.out⟩ | exact ⟨rfl, by omega, c0.out⟩ | exact ⟨rfl, c0.out⟩
  · have i0 : ¬ (255 : Int) < (x.tenant.length : Nat) := by omega
    rcases b1 with g1 | g1
    · have i1 : (255 : Int) < (x.name.length : Nat) := by omega
      go_enter Try.func21, Try.ntmps21
      go_upto_region 1 with fail
      rw [← HW0.out]
      clear HW0
      go_wp2_with fail
      all_goals
        go_ret
        first | exact ⟨true, rfl, by simp [g0, g1], c0.out⟩ | exact ⟨rfl, by simp [g0, g1], c0.out⟩ | exact ⟨rfl, by omega, c0.out⟩ | exact ⟨rfl, c0.out⟩
    · have i1 : ¬ (255 : Int) < (x.name.length : Nat) := by omega
      go_enter Try.func21, Try.ntmps21
      go_upto_region 1 with fail
      rw [← HW0.out]
      clear HW0
      go_wp2_with fail
      all_goals
        go_ret
        first | exact ⟨false, rfl, by simp [g0, g1], c0.out⟩ | exact ⟨rfl, by simp [g0, g1], c0.out⟩ | exact ⟨rfl, by omega, c0.out⟩ | exact ⟨rfl, c0.out⟩

set_option maxRecDepth 100000 in
set_option maxHeartbeats 2000000 in
theorem long_7 (x : Cmd) (ps : List Pnt) (w : World) (hv : Reads w 2 x.pv ps.length (ps.flatMap Pnt.cells)) (hk : x.kind = 7) :
    Calls Try.prog 21 #[.agg #[.int .i64 x.kind, .string ⟨x.tenant.toArray⟩, .string ⟨x.series.toArray⟩, .string ⟨x.name.toArray⟩, x.pv, .int .i64 x.rlo, .int .i64 x.rhi, .int .i64 x.praw, .int .i64 x.pmid, .int .i64 x.plong, .string ⟨x.hname.toArray⟩, .string ⟨x.hser.toArray⟩, .int .i64 x.hlo, .int .i64 x.hhi, .int .i64 x.bytes, .int .i64 x.count, .int .i64 x.at_]] w fun e w' => ∃ r : Bool, e = .returned (.bool r) ∧ (r = true ↔ 255 < x.tenant.length ∨ 255 < x.series.length) ∧ Chg (fun _ => False) w w' := by
  obtain ⟨n, hnn⟩ : ∃ n, n = ps.length := ⟨_, rfl⟩
  rw [← hnn] at hv
  obtain ⟨va, vc, hpv⟩ := hv.form
  obtain ⟨w0, hw0⟩ : ∃ w0, w0 = w.alloc (.cells #[.int .i64 x.kind, .string ⟨x.tenant.toArray⟩, .string ⟨x.series.toArray⟩, .string ⟨x.name.toArray⟩, x.pv, .int .i64 x.rlo, .int .i64 x.rhi, .int .i64 x.praw, .int .i64 x.pmid, .int .i64 x.plong, .string ⟨x.hname.toArray⟩, .string ⟨x.hser.toArray⟩, .int .i64 x.hlo, .int .i64 x.hhi, .int .i64 x.bytes, .int .i64 x.count, .int .i64 x.at_] 30) := ⟨_, rfl⟩
  have c0 : Hid (Chg (fun _ => False) w w0) := by rw [hw0]; exact (Chg.refl _ w).alloc _
  have HX0 : Hid (w0.heap[w.heap.size]? = some (.cells x.cells.toArray 30 (0, 0))) := by rw [hw0]; exact heap_at_new _ _ _ rfl
  have q0 : w0.cell? ⟨w.heap.size, 0, none⟩ = some (.int .i64 7) := cell_cmd HX0.out 0 _ (by rw [← hk]; rfl)
  have q1 : w0.cell? ⟨w.heap.size, 1, none⟩ = some (.string ⟨x.tenant.toArray⟩) := cell_cmd HX0.out 1 _ rfl
  have q2 : w0.cell? ⟨w.heap.size, 2, none⟩ = some (.string ⟨x.series.toArray⟩) := cell_cmd HX0.out 2 _ rfl
  have HW0 := Lib.hid hw0
  clear hv hw0 hk hpv hnn
  have b0 : (255 < x.tenant.length) ∨ ¬ (255 < x.tenant.length) := Decidable.em _
  have b1 : (255 < x.series.length) ∨ ¬ (255 < x.series.length) := Decidable.em _
  rcases b0 with g0 | g0
  · have i0 : (255 : Int) < (x.tenant.length : Nat) := by omega
    go_enter Try.func21, Try.ntmps21
    go_upto_region 1 with fail
    rw [← HW0.out]
    clear HW0
    go_wp2_with fail
    all_goals
      go_ret
      first | exact ⟨true, rfl, by simp [g0], c0.out⟩ | exact ⟨rfl, by simp [g0], c0.out⟩ | exact ⟨rfl, by omega, c0.out⟩ | exact ⟨rfl, c0.out⟩
  · have i0 : ¬ (255 : Int) < (x.tenant.length : Nat) := by omega
    rcases b1 with g1 | g1
    · have i1 : (255 : Int) < (x.series.length : Nat) := by omega
      go_enter Try.func21, Try.ntmps21
      go_upto_region 1 with fail
      rw [← HW0.out]
      clear HW0
      go_wp2_with fail
      all_goals
        go_ret
        first | exact ⟨true, rfl, by simp [g0, g1], c0.out⟩ | exact ⟨rfl, by simp [g0, g1], c0.out⟩ | exact ⟨rfl, by omega, c0.out⟩ | exact ⟨rfl, c0.out⟩
    · have i1 : ¬ (255 : Int) < (x.series.length : Nat) := by omega
      go_enter Try.func21, Try.ntmps21
      go_upto_region 1 with fail
      rw [← HW0.out]
      clear HW0
      go_wp2_with fail
      all_goals
        go_ret
        first | exact ⟨false, rfl, by simp [g0, g1], c0.out⟩ | exact ⟨rfl, by simp [g0, g1], c0.out⟩ | exact ⟨rfl, by omega, c0.out⟩ | exact ⟨rfl, c0.out⟩

set_option maxRecDepth 100000 in
set_option maxHeartbeats 2000000 in
theorem long_8 (x : Cmd) (ps : List Pnt) (w : World) (hv : Reads w 2 x.pv ps.length (ps.flatMap Pnt.cells)) (hk : x.kind = 8) :
    Calls Try.prog 21 #[.agg #[.int .i64 x.kind, .string ⟨x.tenant.toArray⟩, .string ⟨x.series.toArray⟩, .string ⟨x.name.toArray⟩, x.pv, .int .i64 x.rlo, .int .i64 x.rhi, .int .i64 x.praw, .int .i64 x.pmid, .int .i64 x.plong, .string ⟨x.hname.toArray⟩, .string ⟨x.hser.toArray⟩, .int .i64 x.hlo, .int .i64 x.hhi, .int .i64 x.bytes, .int .i64 x.count, .int .i64 x.at_]] w fun e w' => ∃ r : Bool, e = .returned (.bool r) ∧ (r = true ↔ False) ∧ Chg (fun _ => False) w w' := by
  obtain ⟨n, hnn⟩ : ∃ n, n = ps.length := ⟨_, rfl⟩
  rw [← hnn] at hv
  obtain ⟨va, vc, hpv⟩ := hv.form
  obtain ⟨w0, hw0⟩ : ∃ w0, w0 = w.alloc (.cells #[.int .i64 x.kind, .string ⟨x.tenant.toArray⟩, .string ⟨x.series.toArray⟩, .string ⟨x.name.toArray⟩, x.pv, .int .i64 x.rlo, .int .i64 x.rhi, .int .i64 x.praw, .int .i64 x.pmid, .int .i64 x.plong, .string ⟨x.hname.toArray⟩, .string ⟨x.hser.toArray⟩, .int .i64 x.hlo, .int .i64 x.hhi, .int .i64 x.bytes, .int .i64 x.count, .int .i64 x.at_] 30) := ⟨_, rfl⟩
  have c0 : Hid (Chg (fun _ => False) w w0) := by rw [hw0]; exact (Chg.refl _ w).alloc _
  have HX0 : Hid (w0.heap[w.heap.size]? = some (.cells x.cells.toArray 30 (0, 0))) := by rw [hw0]; exact heap_at_new _ _ _ rfl
  have q0 : w0.cell? ⟨w.heap.size, 0, none⟩ = some (.int .i64 8) := cell_cmd HX0.out 0 _ (by rw [← hk]; rfl)
  have HW0 := Lib.hid hw0
  clear hv hw0 hk hpv hnn
  go_enter Try.func21, Try.ntmps21
  go_upto_region 1 with fail
  rw [← HW0.out]
  clear HW0
  go_wp2_with fail
  all_goals
    go_ret
    first | exact ⟨false, rfl, by simp [], c0.out⟩ | exact ⟨rfl, by simp [], c0.out⟩ | exact ⟨rfl, by omega, c0.out⟩ | exact ⟨rfl, c0.out⟩

set_option maxRecDepth 100000 in
set_option maxHeartbeats 2000000 in
theorem long_9 (x : Cmd) (ps : List Pnt) (w : World) (hv : Reads w 2 x.pv ps.length (ps.flatMap Pnt.cells)) (hk : x.kind = 9) :
    Calls Try.prog 21 #[.agg #[.int .i64 x.kind, .string ⟨x.tenant.toArray⟩, .string ⟨x.series.toArray⟩, .string ⟨x.name.toArray⟩, x.pv, .int .i64 x.rlo, .int .i64 x.rhi, .int .i64 x.praw, .int .i64 x.pmid, .int .i64 x.plong, .string ⟨x.hname.toArray⟩, .string ⟨x.hser.toArray⟩, .int .i64 x.hlo, .int .i64 x.hhi, .int .i64 x.bytes, .int .i64 x.count, .int .i64 x.at_]] w fun e w' => ∃ r : Bool, e = .returned (.bool r) ∧ (r = true ↔ False) ∧ Chg (fun _ => False) w w' := by
  obtain ⟨n, hnn⟩ : ∃ n, n = ps.length := ⟨_, rfl⟩
  rw [← hnn] at hv
  obtain ⟨va, vc, hpv⟩ := hv.form
  obtain ⟨w0, hw0⟩ : ∃ w0, w0 = w.alloc (.cells #[.int .i64 x.kind, .string ⟨x.tenant.toArray⟩, .string ⟨x.series.toArray⟩, .string ⟨x.name.toArray⟩, x.pv, .int .i64 x.rlo, .int .i64 x.rhi, .int .i64 x.praw, .int .i64 x.pmid, .int .i64 x.plong, .string ⟨x.hname.toArray⟩, .string ⟨x.hser.toArray⟩, .int .i64 x.hlo, .int .i64 x.hhi, .int .i64 x.bytes, .int .i64 x.count, .int .i64 x.at_] 30) := ⟨_, rfl⟩
  have c0 : Hid (Chg (fun _ => False) w w0) := by rw [hw0]; exact (Chg.refl _ w).alloc _
  have HX0 : Hid (w0.heap[w.heap.size]? = some (.cells x.cells.toArray 30 (0, 0))) := by rw [hw0]; exact heap_at_new _ _ _ rfl
  have q0 : w0.cell? ⟨w.heap.size, 0, none⟩ = some (.int .i64 9) := cell_cmd HX0.out 0 _ (by rw [← hk]; rfl)
  have HW0 := Lib.hid hw0
  clear hv hw0 hk hpv hnn
  go_enter Try.func21, Try.ntmps21
  go_upto_region 1 with fail
  rw [← HW0.out]
  clear HW0
  go_wp2_with fail
  all_goals
    go_ret
    first | exact ⟨false, rfl, by simp [], c0.out⟩ | exact ⟨rfl, by simp [], c0.out⟩ | exact ⟨rfl, by omega, c0.out⟩ | exact ⟨rfl, c0.out⟩

theorem long_any (x : Cmd) (ps : List Pnt) (w : World) (hv : Reads w 2 x.pv ps.length (ps.flatMap Pnt.cells)) (hk : 0 ≤ x.kind ∧ x.kind < 10) :
    Calls Try.prog 21 #[.agg #[.int .i64 x.kind, .string ⟨x.tenant.toArray⟩, .string ⟨x.series.toArray⟩, .string ⟨x.name.toArray⟩, x.pv, .int .i64 x.rlo, .int .i64 x.rhi, .int .i64 x.praw, .int .i64 x.pmid, .int .i64 x.plong, .string ⟨x.hname.toArray⟩, .string ⟨x.hser.toArray⟩, .int .i64 x.hlo, .int .i64 x.hhi, .int .i64 x.bytes, .int .i64 x.count, .int .i64 x.at_]] w fun e w' => ∃ r : Bool, e = .returned (.bool r) ∧ (r = true ↔ ∃ i ∈ x.its ps, ¬ i.short) ∧ Chg (fun _ => False) w w' := by
  have hk' : x.kind = 0 ∨ x.kind = 1 ∨ x.kind = 2 ∨ x.kind = 3 ∨ x.kind = 4 ∨ x.kind = 5 ∨ x.kind = 6 ∨ x.kind = 7 ∨ x.kind = 8 ∨ x.kind = 9 := by omega
  rcases hk' with h | h | h | h | h | h | h | h | h | h
  · refine (long_0 x ps w hv h).mono ?_
    rintro e w' ⟨r, rfl, hr, c⟩
    refine ⟨r, rfl, hr.trans ?_, c⟩
    simp [Cmd.its, h, It.short]
  · refine (long_1 x ps w hv h).mono ?_
    rintro e w' ⟨r, rfl, hr, c⟩
    refine ⟨r, rfl, hr.trans ?_, c⟩
    simp [Cmd.its, h, It.short]
  · refine (long_2 x ps w hv h).mono ?_
    rintro e w' ⟨r, rfl, hr, c⟩
    refine ⟨r, rfl, hr.trans ?_, c⟩
    simp [Cmd.its, h, It.short]
  · refine (long_3 x ps w hv h).mono ?_
    rintro e w' ⟨r, rfl, hr, c⟩
    refine ⟨r, rfl, hr.trans ?_, c⟩
    simp [Cmd.its, h, It.short]
  · refine (long_4 x ps w hv h).mono ?_
    rintro e w' ⟨r, rfl, hr, c⟩
    refine ⟨r, rfl, hr.trans ?_, c⟩
    simp [Cmd.its, h, It.short]
  · refine (long_5 x ps w hv h).mono ?_
    rintro e w' ⟨r, rfl, hr, c⟩
    refine ⟨r, rfl, hr.trans ?_, c⟩
    simp [Cmd.its, h, It.short]
  · refine (long_6 x ps w hv h).mono ?_
    rintro e w' ⟨r, rfl, hr, c⟩
    refine ⟨r, rfl, hr.trans ?_, c⟩
    simp [Cmd.its, h, It.short]
  · refine (long_7 x ps w hv h).mono ?_
    rintro e w' ⟨r, rfl, hr, c⟩
    refine ⟨r, rfl, hr.trans ?_, c⟩
    simp [Cmd.its, h, It.short]
  · refine (long_8 x ps w hv h).mono ?_
    rintro e w' ⟨r, rfl, hr, c⟩
    refine ⟨r, rfl, hr.trans ?_, c⟩
    simp [Cmd.its, h, It.short]
  · refine (long_9 x ps w hv h).mono ?_
    rintro e w' ⟨r, rfl, hr, c⟩
    refine ⟨r, rfl, hr.trans ?_, c⟩
    simp [Cmd.its, h, It.short]

set_option maxRecDepth 100000 in
set_option maxHeartbeats 1000000 in
theorem erases_any (x : Cmd) (w : World) :
    Calls Try.prog 22 #[.agg #[.int .i64 x.kind, .string ⟨x.tenant.toArray⟩, .string ⟨x.series.toArray⟩, .string ⟨x.name.toArray⟩, x.pv, .int .i64 x.rlo, .int .i64 x.rhi, .int .i64 x.praw, .int .i64 x.pmid, .int .i64 x.plong, .string ⟨x.hname.toArray⟩, .string ⟨x.hser.toArray⟩, .int .i64 x.hlo, .int .i64 x.hhi, .int .i64 x.bytes, .int .i64 x.count, .int .i64 x.at_]] w fun e w' => e = .returned (.bool (decide (x.kind = 2 ∨ x.kind = 7 ∨ x.kind = 9))) ∧ Chg (fun _ => False) w w' := by
  obtain ⟨w0, hw0⟩ : ∃ w0, w0 = w.alloc (.cells #[.int .i64 x.kind, .string ⟨x.tenant.toArray⟩, .string ⟨x.series.toArray⟩, .string ⟨x.name.toArray⟩, x.pv, .int .i64 x.rlo, .int .i64 x.rhi, .int .i64 x.praw, .int .i64 x.pmid, .int .i64 x.plong, .string ⟨x.hname.toArray⟩, .string ⟨x.hser.toArray⟩, .int .i64 x.hlo, .int .i64 x.hhi, .int .i64 x.bytes, .int .i64 x.count, .int .i64 x.at_] 30) := ⟨_, rfl⟩
  have c0 : Hid (Chg (fun _ => False) w w0) := by rw [hw0]; exact (Chg.refl _ w).alloc _
  have q0 : w0.cell? ⟨w.heap.size, 0, none⟩ = some (.int .i64 x.kind) := by rw [hw0]; exact cell_cmd (heap_at_new _ (.cells x.cells.toArray 30) _ rfl) 0 _ rfl
  have HW0 := Lib.hid hw0
  clear hw0
  generalize x.kind = k at *
  by_cases h2 : k = 2
  · have e2 : (k == 2) = true := by simpa using h2
    rw [decide_eq_true (.inl h2)]
    clear h2
    go_enter Try.func22, Try.ntmps22
    go_upto_region 1 with fail
    rw [← HW0.out]
    clear HW0
    go_wp2_with fail
    go_ret
    exact ⟨rfl, c0.out⟩
  have e2 : (k == 2) = false := by simpa using h2
  by_cases h7 : k = 7
  · have e7 : (k == 7) = true := by simpa using h7
    rw [decide_eq_true (.inr (.inl h7))]
    clear h2 h7
    go_enter Try.func22, Try.ntmps22
    go_upto_region 1 with fail
    rw [← HW0.out]
    clear HW0
    go_wp2_with fail
    go_ret
    exact ⟨rfl, c0.out⟩
  have e7 : (k == 7) = false := by simpa using h7
  by_cases h9 : k = 9
  · have e9 : (k == 9) = true := by simpa using h9
    rw [decide_eq_true (.inr (.inr h9))]
    clear h2 h7 h9
    go_enter Try.func22, Try.ntmps22
    go_upto_region 1 with fail
    rw [← HW0.out]
    clear HW0
    go_wp2_with fail
    go_ret
    exact ⟨rfl, c0.out⟩
  have e9 : (k == 9) = false := by simpa using h9
  rw [decide_eq_false (by simp [h2, h7, h9])]
  clear h2 h7 h9
  go_enter Try.func22, Try.ntmps22
  go_upto_region 1 with fail
  rw [← HW0.out]
  clear HW0
  go_wp2_with fail
  go_ret
  exact ⟨rfl, c0.out⟩
end Go.Proofs.Ytjhkhdockiocgaa
