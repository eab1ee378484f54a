/- Law 26: lives, few. -/
import Derived.Test.YtjhkhdockiocgaaRows
import Derived.Test.YtjhkhdockiocgaaCmd5
namespace Go.Proofs.Ytjhkhdockiocgaa
open Go.RowKit Go.Cat

/-- Is a command little? -/
def Cmd.few (x : Cmd) (n : Nat) : Bool := decide (x.tenant.length ≤ 400) && (decide (x.series.length ≤ 400) && (decide (x.name.length ≤ 400) && (decide (x.hname.length ≤ 400) && (decide (x.hser.length ≤ 400) && decide (n ≤ 300)))))

set_option maxRecDepth 100000 in
set_option maxHeartbeats 1000000 in
theorem few26 (x : Cmd) (ps : List Pnt) (w : World) (hv : Reads w 2 x.pv ps.length (ps.flatMap Pnt.cells)) :
    Calls Try.prog 15 #[.agg #[.int .i64 x.kind, .string ⟨x.tenant.toArray⟩, .string ⟨x.series.toArray⟩, .string ⟨x.name.toArray⟩, x.pv, .int .i64 x.rlo, .int .i64 x.rhi, .int .i64 x.praw, .int .i64 x.pmid, .int .i64 x.plong, .string ⟨x.hname.toArray⟩, .string ⟨x.hser.toArray⟩, .int .i64 x.hlo, .int .i64 x.hhi, .int .i64 x.bytes, .int .i64 x.count, .int .i64 x.at_]] w fun e w' => e = .returned (.bool (x.few ps.length)) ∧ Chg (fun _ => False) w w' := by
  obtain ⟨kind, tenant, series, name, pv, rlo, rhi, praw, pmid, plong, hname, hser, hlo, hhi, bytes, count, at_⟩ := x
  simp only at hv ⊢
  obtain ⟨va, vc, rfl⟩ := hv.form
  clear hv
  unfold Cmd.few
  simp only
  obtain ⟨n, hn⟩ : ∃ n, n = ps.length := ⟨_, rfl⟩
  rw [← hn]
  clear hn
  by_cases j0 : tenant.length ≤ 400
  · have i0 : (tenant.length : Int) ≤ 400 := by omega
    by_cases j1 : series.length ≤ 400
    · have i1 : (series.length : Int) ≤ 400 := by omega
      by_cases j2 : name.length ≤ 400
      · have i2 : (name.length : Int) ≤ 400 := by omega
        by_cases j3 : hname.length ≤ 400
        · have i3 : (hname.length : Int) ≤ 400 := by omega
          by_cases j4 : hser.length ≤ 400
          · have i4 : (hser.length : Int) ≤ 400 := by omega
            by_cases j5 : n ≤ 300
            · have i5 : (n : Int) ≤ 300 := by omega
              go_enter Try.func15, Try.ntmps15
              go_wp2_with fail
              go_ret
              exact ⟨by simp [j0, j1, j2, j3, j4, j5], (Chg.refl _ w).alloc _⟩
            · have i5 : ¬ (n : Int) ≤ 300 := by omega
              go_enter Try.func15, Try.ntmps15
              go_wp2_with fail
              go_ret
              exact ⟨by simp [j0, j1, j2, j3, j4, j5], (Chg.refl _ w).alloc _⟩
          · have i4 : ¬ (hser.length : Int) ≤ 400 := by omega
            go_enter Try.func15, Try.ntmps15
            go_wp2_with fail
            go_ret
            exact ⟨by simp [j0, j1, j2, j3, j4], (Chg.refl _ w).alloc _⟩
        · have i3 : ¬ (hname.length : Int) ≤ 400 := by omega
          go_enter Try.func15, Try.ntmps15
          go_wp2_with fail
          go_ret
          exact ⟨by simp [j0, j1, j2, j3], (Chg.refl _ w).alloc _⟩
      · have i2 : ¬ (name.length : Int) ≤ 400 := by omega
        go_enter Try.func15, Try.ntmps15
        go_wp2_with fail
        go_ret
        exact ⟨by simp [j0, j1, j2], (Chg.refl _ w).alloc _⟩
    · have i1 : ¬ (series.length : Int) ≤ 400 := by omega
      go_enter Try.func15, Try.ntmps15
      go_wp2_with fail
      go_ret
      exact ⟨by simp [j0, j1], (Chg.refl _ w).alloc _⟩
  · have i0 : ¬ (tenant.length : Int) ≤ 400 := by omega
    go_enter Try.func15, Try.ntmps15
    go_wp2_with fail
    go_ret
    exact ⟨by simp [j0], (Chg.refl _ w).alloc _⟩

set_option maxRecDepth 100000 in
set_option maxHeartbeats 1000000 in
theorem lives26 (w : World) : Calls Try.prog 14 #[] w fun e w' => e = .returned (.bool true) ∧ Chg (fun _ => False) w w' := by
  have HB := Lib.hid (fun w => cbytes_any ⟨8, [], [], [], .slice none 0 0, 0, 0, 0, 0, 0, [], [], 0, 0, 0, 0, 258⟩ [] w (Reads.nil w 2) (by simp))
  have ho : (Cmd.mk 8 [] [] [] (.slice none 0 0) 0 0 0 0 0 [] [] 0 0 0 0 258).out [] = ([8, 0, 0, 0, 0, 0, 0, 1, 2], 0) := by decide
  rw [ho] at HB
  clear ho
  go_enter Try.func14, Try.ntmps14
  go_wp2_with fail
  refine (HB.out w).mono ?_
  rintro e w1 ⟨v, rfl, hv, _, c1⟩
  have hcv := convb w1 v _ (hv trivial).rb
  clear hv
  go_wp2
  go_ret
  exact ⟨rfl, c1⟩
end Go.Proofs.Ytjhkhdockiocgaa
