/- Law 26: lives, few, command.Size. -/
import Derived.Test.YtncgeeaifacapaaRows
import Derived.Test.YtncgeeaifacapaaCmd5
namespace Go.Proofs.Ytncgeeaifacapaa
open Go.RowKit Go.Cat

/-- Is a command little? -/
def Cmd.few (x : Cmd) (n : Nat) : Bool := decide (x.tenant.length ≤ 400) && (decide (x.series.length ≤ 400) && (decide (x.name.length ≤ 400) && (decide (x.hname.length ≤ 400) && (decide (x.hser.length ≤ 400) && decide (n ≤ 300)))))

set_option maxRecDepth 100000 in
set_option maxHeartbeats 1000000 in
theorem few26 (x : Cmd) (ps : List Pnt) (w : World) (hv : Reads w 2 x.pv ps.length (ps.flatMap Pnt.cells)) :
    Calls Try.prog 63 #[.agg #[.int .i64 x.kind, .string ⟨x.tenant.toArray⟩, .string ⟨x.series.toArray⟩, .string ⟨x.name.toArray⟩, x.pv, .int .i64 x.rlo, .int .i64 x.rhi, .int .i64 x.praw, .int .i64 x.pmid, .int .i64 x.plong, .string ⟨x.hname.toArray⟩, .string ⟨x.hser.toArray⟩, .int .i64 x.hlo, .int .i64 x.hhi, .int .i64 x.bytes, .int .i64 x.count, .int .i64 x.at_]] w fun e w' => e = .returned (.bool (x.few ps.length)) ∧ Chg (fun _ => False) w w' := by
  obtain ⟨kind, tenant, series, name, pv, rlo, rhi, praw, pmid, plong, hname, hser, hlo, hhi, bytes, count, at_⟩ := x
  simp only at hv ⊢
  obtain ⟨va, vc, rfl⟩ := hv.form
  clear hv
  unfold Cmd.few
  simp only
  obtain ⟨n, hn⟩ : ∃ n, n = ps.length := ⟨_, rfl⟩
  rw [← hn]
  clear hn
  by_cases j0 : tenant.length ≤ 400
  · have i0 : (tenant.length : Int) ≤ 400 := by omega
    by_cases j1 : series.length ≤ 400
    · have i1 : (series.length : Int) ≤ 400 := by omega
      by_cases j2 : name.length ≤ 400
      · have i2 : (name.length : Int) ≤ 400 := by omega
        by_cases j3 : hname.length ≤ 400
        · have i3 : (hname.length : Int) ≤ 400 := by omega
          by_cases j4 : hser.length ≤ 400
          · have i4 : (hser.length : Int) ≤ 400 := by omega
            by_cases j5 : n ≤ 300
            · have i5 : (n : Int) ≤ 300 := by omega
              go_enter Try.func63, Try.ntmps63
              go_wp2_with fail
              go_ret
              exact ⟨by simp [j0, j1, j2, j3, j4, j5], (Chg.refl _ w).alloc _⟩
            · have i5 : ¬ (n : Int) ≤ 300 := by omega
              go_enter Try.func63, Try.ntmps63
              go_wp2_with fail
              go_ret
              exact ⟨by simp [j0, j1, j2, j3, j4, j5], (Chg.refl _ w).alloc _⟩
          · have i4 : ¬ (hser.length : Int) ≤ 400 := by omega
            go_enter Try.func63, Try.ntmps63
            go_wp2_with fail
            go_ret
            exact ⟨by simp [j0, j1, j2, j3, j4], (Chg.refl _ w).alloc _⟩
        · have i3 : ¬ (hname.length : Int) ≤ 400 := by omega
          go_enter Try.func63, Try.ntmps63
          go_wp2_with fail
          go_ret
          exact ⟨by simp [j0, j1, j2, j3], (Chg.refl _ w).alloc _⟩
      · have i2 : ¬ (name.length : Int) ≤ 400 := by omega
        go_enter Try.func63, Try.ntmps63
        go_wp2_with fail
        go_ret
        exact ⟨by simp [j0, j1, j2], (Chg.refl _ w).alloc _⟩
    · have i1 : ¬ (series.length : Int) ≤ 400 := by omega
      go_enter Try.func63, Try.ntmps63
      go_wp2_with fail
      go_ret
      exact ⟨by simp [j0, j1], (Chg.refl _ w).alloc _⟩
  · have i0 : ¬ (tenant.length : Int) ≤ 400 := by omega
    go_enter Try.func63, Try.ntmps63
    go_wp2_with fail
    go_ret
    exact ⟨by simp [j0], (Chg.refl _ w).alloc _⟩

/-- How many bytes a command of a kind has. -/
def sizeOf26 (k t s n p : Int) : Int :=
  if k = 0 ∨ k = 1 then 1 + (2 + t) + 16 else if k = 2 then 1 + (2 + t) else if k = 3 then 1 + (2 + t) + (2 + s) + (2 + 16 * p) else if k = 4 then 1 + (2 + t) + 24
  else if k = 5 then 1 + (2 + t) + (2 + n) + (2 + s) + 16 else if k = 6 then 1 + (2 + t) + (2 + n) else if k = 7 then 1 + (2 + t) + (2 + s) + 16 else if k = 8 ∨ k = 9 then 9 else 0
def mx0 (t : Int) : Int := if t < 0 then 0 else t

set_option maxRecDepth 100000 in
set_option maxHeartbeats 1000000 in
theorem size26 (k t s n p : Int) (w : World) (ht : t ≤ 1000000) (hs : s ≤ 1000000) (hn : n ≤ 1000000) (hp : p ≤ 1000000) :
    Calls Try.prog 64 #[.int .i64 k, .int .i64 t, .int .i64 s, .int .i64 n, .int .i64 p] w fun e w' => e = .returned (.int .i64 (sizeOf26 k (mx0 t) (mx0 s) (mx0 n) (mx0 p))) ∧ w = w' := by
  have m1 : (if t < 0 then 0 else t) = mx0 t := rfl
  have m2 : (if s < 0 then 0 else s) = mx0 s := rfl
  have m3 : (if n < 0 then 0 else n) = mx0 n := rfl
  have m4 : (if p < 0 then 0 else p) = mx0 p := rfl
  have hm : ∀ t, t ≤ 1000000 → 0 ≤ mx0 t ∧ mx0 t ≤ 1000000 := fun t h => by unfold mx0; split <;> omega
  have HM1 := hm t ht
  have HM2 := hm s hs
  have HM3 := hm n hn
  have HM4 := hm p hp
  clear hm ht hs hn hp
  generalize mx0 t = t' at *
  generalize mx0 s = s' at *
  generalize mx0 n = n' at *
  generalize mx0 p = p' at *
  go_enter Try.func64, Try.ntmps64
  go_wp2_with fail
  all_goals
    go_ret
    refine ⟨?_, rfl⟩
    clear m1 m2 m3 m4 HM1 HM2 HM3 HM4
    simp_all [sizeOf26]

set_option maxRecDepth 100000 in
set_option maxHeartbeats 1000000 in
theorem lives26 (w : World) : Calls Try.prog 62 #[] w fun e w' => e = .returned (.bool true) ∧ Chg (fun _ => False) w w' := by
  have HB := Lib.hid (fun w => cbytes_any ⟨8, [], [], [], .slice none 0 0, 0, 0, 0, 0, 0, [], [], 0, 0, 0, 0, 258⟩ [] w (Reads.nil w 2) (by simp))
  have ho : (Cmd.mk 8 [] [] [] (.slice none 0 0) 0 0 0 0 0 [] [] 0 0 0 0 258).out [] = ([8, 0, 0, 0, 0, 0, 0, 1, 2], 0) := by decide
  rw [ho] at HB
  clear ho
  go_enter Try.func62, Try.ntmps62
  go_wp2_with fail
  refine (HB.out w).mono ?_
  rintro e w1 ⟨v, rfl, hv, _, c1⟩
  have hcv := convb w1 v _ (hv trivial).rb
  clear hv
  go_wp2
  go_ret
  exact ⟨rfl, c1⟩
end Go.Proofs.Ytncgeeaifacapaa
