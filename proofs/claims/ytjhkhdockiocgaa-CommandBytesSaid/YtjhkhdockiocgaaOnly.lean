/- Contracts: slices.Clone of points, command.Only. -/
import Derived.Test.YtjhkhdockiocgaaCmd5
import Derived.Test.YtjhkhdockiocgaaT
import Derived.Deep.CutRange
import Derived.Lib.SliceRun
import Derived.Deep.CutBlock
namespace Go.Proofs.Ytjhkhdockiocgaa
open Go.RowKit Go.Cat

theorem wpList_allocN {P : Program} {ops : Array Oper} {rest : List Oper} {o : Oper} {a : Act} {w : World} {Q : Exit → Act → World → Prop} (hgd : o.guard = none) (t : TypeId) (ho : o.op = .alloc t) (z : Value) (n : Nat) (h : (P.info? t).map (fun i => (i.zero, i.size)) = some (some z, n)) (wa : World) (b : Nat) (hb : b = w.heap.size) (hwa : wa = w.alloc (.cells z.cells t))
    (hk : wpList P ops Q rest (a.put o.dst (.pointer (some ⟨b, 0, none⟩))) wa) : wpList P ops Q (o :: rest) a w := by
  subst hb hwa
  exact wpList_alloc hgd t ho z n h hk
theorem load_cmd (w : World) (g : Nat) (x : Cmd) (T : TypeId) (hg : w.heap[g]? = some (.cells x.cells.toArray T (0, 0))) :
    (Instr.loadAt 30 (.pointer (some ⟨g, 0, none⟩))).run Try.prog w = .ok (.agg #[.int .i64 x.kind, .string ⟨x.tenant.toArray⟩, .string ⟨x.series.toArray⟩, .string ⟨x.name.toArray⟩, x.pv, .int .i64 x.rlo, .int .i64 x.rhi, .int .i64 x.praw, .int .i64 x.pmid, .int .i64 x.plong, .string ⟨x.hname.toArray⟩, .string ⟨x.hser.toArray⟩, .int .i64 x.hlo, .int .i64 x.hhi, .int .i64 x.bytes, .int .i64 x.count, .int .i64 x.at_]) w := by
  refine run_loadAt_agg (P := Try.prog) w 30 _ g 0 x.cells Try.underlying30 rfl (by kernel_rfl) (fun j u hj => ?_)
  rw [cell_of_heap hg, Nat.zero_add]
  simpa using hj
/-- Cells of an array turned, from a place on. -/
def setArr (c : Array Value) (off : Nat) : List Value → Array Value
  | [] => c
  | v :: r => setArr (c.setIfInBounds off v) (off + 1) r
theorem heap_setCells_same {g : Nat} {T : TypeId} : ∀ (vs : List Value) (off : Nat) (w : World) (c : Array Value), w.heap[g]? = some (.cells c T (0, 0)) → (w.setCells g off vs).heap[g]? = some (.cells (setArr c off vs) T (0, 0))
  | [], _, _, _, h => h
  | v :: r, off, w, c, h => by
    have := heap_setCells_same r (off + 1) (w.setCell ⟨g, off, none⟩ v) _ (Cat.heap_setCell_same h off v)
    simpa [World.setCells, setArr] using this
theorem Cmd.cells_one (x : Cmd) (hx : x.pv.oneCell' = true) : ∀ v ∈ x.cells, v.oneCell' = true := by
  intro v hv
  simp only [Cmd.cells, List.mem_cons, List.not_mem_nil, or_false] at hv
  rcases hv with rfl | rfl | rfl | rfl | rfl | rfl | rfl | rfl | rfl | rfl | rfl | rfl | rfl | rfl | rfl | rfl | rfl <;> first | rfl | exact hx
theorem store_cmd (w : World) (g : Nat) (x y : Cmd) (T : TypeId) (hg : w.heap[g]? = some (.cells y.cells.toArray T (0, 0))) (hx : x.pv.oneCell' = true) :
    (Instr.storeAt 30 (.pointer (some ⟨g, 0, none⟩)) (.agg #[.int .i64 x.kind, .string ⟨x.tenant.toArray⟩, .string ⟨x.series.toArray⟩, .string ⟨x.name.toArray⟩, x.pv, .int .i64 x.rlo, .int .i64 x.rhi, .int .i64 x.praw, .int .i64 x.pmid, .int .i64 x.plong, .string ⟨x.hname.toArray⟩, .string ⟨x.hser.toArray⟩, .int .i64 x.hlo, .int .i64 x.hhi, .int .i64 x.bytes, .int .i64 x.count, .int .i64 x.at_])).run Try.prog w = .ok () (w.setCells g 0 x.cells) := by
  refine run_storeAt_agg (P := Try.prog) w 30 g 0 x.cells (by kernel_rfl) (fun j hj => ?_) (fun j _ => frozen_of_heap hg _) (x.cells_one hx)
  rw [cell_of_heap hg, Array.getElem?_eq_getElem (by simpa [Cmd.cells] using hj)]; rfl
theorem heap_cmd (w : World) (g : Nat) (x y : Cmd) (T : TypeId) (hg : w.heap[g]? = some (.cells y.cells.toArray T (0, 0))) : (w.setCells g 0 x.cells).heap[g]? = some (.cells x.cells.toArray T (0, 0)) := by
  have h := heap_setCells_same x.cells 0 w _ hg
  rw [show setArr y.cells.toArray 0 x.cells = x.cells.toArray from by simp [setArr, Cmd.cells]] at h
  exact h

set_option maxRecDepth 100000 in
set_option maxHeartbeats 1000000 in
theorem cloneP_any (v : Value) (ps : List Pnt) (w : World) (hv : Reads w 2 v ps.length (ps.flatMap Pnt.cells)) (hn : ps.length ≤ 1000000) :
    Calls Try.prog 68 #[v] w fun e w' => ∃ v', e = .returned v' ∧ Reads w' 2 v' ps.length (ps.flatMap Pnt.cells) ∧ (∀ k, v'.ownBlock = some k → w.heap.size ≤ k) ∧ Chg (fun _ => False) w w' := by
  have HV := Lib.hid hv
  have hone : ∀ u ∈ ps.flatMap Pnt.cells, u.oneCell' = true := by
    intro u hu
    obtain ⟨p, _, hp⟩ := List.mem_flatMap.1 hu
    simp only [Pnt.cells, List.mem_cons, List.not_mem_nil, or_false] at hp
    rcases hp with rfl | rfl <;> rfl
  have HONE := Lib.hid hone
  clear hone
  rcases hv.2 with ⟨rfl, h0⟩ | ⟨g, o, cap, rfl, h1, h2, h3, h4⟩
  · clear hv
    obtain ⟨n, hn0⟩ : ∃ n, n = ps.length := ⟨_, rfl⟩
    rw [← hn0] at HV ⊢
    clear h0 hn0
    have hnil := Lib.run_eql_slice_nil (P := Try.prog) w 22 116 none 0 0 0 0 Try.underlying22
    go_enter Try.func68, Try.ntmps68
    go_wp2_with fail
    go_ret
    exact ⟨_, rfl, HV.out, fun k hk => by simp [Value.ownBlock] at hk, Chg.refl _ _⟩
  · clear hv h1 h2 h3 h4
    have hnil := Lib.run_eql_slice_nil (P := Try.prog) w 22 116 (some ⟨g, o, none⟩) ps.length cap 0 0 Try.underlying22
    have hb : (0 + ps.length) * 16 ≤ 140737488355328 := by omega
    have hm : 0 + ps.length ≤ maxLen := by simp only [maxLen]; omega
    go_enter Try.func68, Try.ntmps68
    go_wp2_with (at_builtin; go_loud (refine wpList_appm rfl _ _ 22 rfl 116 (.agg #[.int .i64 0, .int .i64 0]) 2 16 Try.underlying22 (by kernel_rfl) rfl (.slice (some ⟨w.heap.size, 0, none⟩) 0 0) 0 [] rfl (Owns.empty w 116 2) _ ps.length (ps.flatMap Pnt.cells) rfl (HV.out.alloc _) HONE.out hm hb ?_; intro v' w5 own5 c5 in5 nn5; have H5 := Lib.hid own5; have C5 := Lib.hid c5; have I5 := Lib.hid in5; clear own5 c5 in5 nn5))
    go_ret
    have h5 := H5.out.reads
    rw [Nat.zero_add, List.nil_append] at h5
    exact ⟨_, rfl, h5, fun k hk => by rcases I5.out k hk with h | h <;> simp [Value.ownBlock] at h <;> omega, ((Chg.refl _ w).alloc _).new C5.out (fun k hk => by simp [Value.ownBlock] at hk; omega)⟩

def Cmd.zero : Cmd := ⟨0, [], [], [], .slice none 0 0, 0, 0, 0, 0, 0, [], [], 0, 0, 0, 0, 0⟩
def Cmd.base (x : Cmd) : Cmd := ⟨x.kind, [], [], [], .slice none 0 0, 0, 0, 0, 0, 0, [], [], 0, 0, 0, 0, 0⟩
/-- With the fields that its kind has. -/
def Cmd.only (x : Cmd) (pv : Value) : Cmd where
  kind := x.kind
  tenant := if x.kind = 0 ∨ x.kind = 1 ∨ x.kind = 2 ∨ x.kind = 3 ∨ x.kind = 4 ∨ x.kind = 5 ∨ x.kind = 6 ∨ x.kind = 7 then x.tenant else []
  series := if x.kind = 3 ∨ x.kind = 7 then x.series else []
  name := if x.kind = 6 then x.name else []
  pv := pv
  rlo := if x.kind = 7 then x.rlo else 0
  rhi := if x.kind = 7 then x.rhi else 0
  praw := if x.kind = 4 then x.praw else 0
  pmid := if x.kind = 4 then x.pmid else 0
  plong := if x.kind = 4 then x.plong else 0
  hname := if x.kind = 5 then x.hname else []
  hser := if x.kind = 5 then x.hser else []
  hlo := if x.kind = 5 then x.hlo else 0
  hhi := if x.kind = 5 then x.hhi else 0
  bytes := if x.kind = 0 ∨ x.kind = 1 ∨ x.kind = 9 then x.bytes else 0
  count := if x.kind = 0 ∨ x.kind = 1 then x.count else 0
  at_ := if x.kind = 8 then x.at_ else 0
def Cmd.onlyPs (x : Cmd) (ps : List Pnt) : List Pnt := if x.kind = 3 then ps else []
theorem store_strc (w : World) (p : Addr) (u : Value) (x : ByteArray) (h : w.cell? p = some u) (hf : w.frozen? p = false) (hp : p.spot = none := by rfl) : (Instr.storeAt 9 (.pointer (some p)) (.string x)).run Try.prog w = .ok () (w.setCell p (.string x)) := by
  obtain ⟨b, o, s⟩ := p
  simp only at hp; subst hp
  go_simp
theorem store_i64c (w : World) (p : Addr) (u : Value) (x : Int) (h : w.cell? p = some u) (hf : w.frozen? p = false) (hp : p.spot = none := by rfl) : (Instr.storeAt 2 (.pointer (some p)) (.int .i64 x)).run Try.prog w = .ok () (w.setCell p (.int .i64 x)) := by
  obtain ⟨b, o, s⟩ := p
  simp only at hp; subst hp
  go_simp
theorem store_ptsc (w : World) (p : Addr) (u : Value) (a : Option Addr) (n c : Nat) (h : w.cell? p = some u) (hf : w.frozen? p = false) (hp : p.spot = none := by rfl) : (Instr.storeAt 22 (.pointer (some p)) (.slice a n c)).run Try.prog w = .ok () (w.setCell p (.slice a n c)) := by
  obtain ⟨b, o, s⟩ := p
  simp only at hp; subst hp
  go_simp
theorem load_policy (w : World) (g : Nat) (x : Cmd) (T : TypeId) (hg : w.heap[g]? = some (.cells x.cells.toArray T (0, 0))) :
    (Instr.loadAt 26 (.pointer (some ⟨g, 7, none⟩))).run Try.prog w = .ok (.agg #[.int .i64 x.praw, .int .i64 x.pmid, .int .i64 x.plong]) w := by
  refine run_loadAt_agg (P := Try.prog) w 26 _ g 7 [.int .i64 x.praw, .int .i64 x.pmid, .int .i64 x.plong] Try.underlying26 rfl (by kernel_rfl) (fun j u hj => ?_)
  have hl := (List.getElem?_eq_some_iff.1 hj).1
  simp only [List.length_cons, List.length_nil] at hl
  rw [cell_of_heap hg]
  match j, hl, hj with
  | 0, _, hj => simpa [Cmd.cells] using hj
  | 1, _, hj => simpa [Cmd.cells] using hj
  | 2, _, hj => simpa [Cmd.cells] using hj
theorem store_policy (w : World) (g : Nat) (x y : Cmd) (T : TypeId) (hg : w.heap[g]? = some (.cells y.cells.toArray T (0, 0))) :
    (Instr.storeAt 26 (.pointer (some ⟨g, 7, none⟩)) (.agg #[.int .i64 x.praw, .int .i64 x.pmid, .int .i64 x.plong])).run Try.prog w = .ok () (w.setCells g 7 [.int .i64 x.praw, .int .i64 x.pmid, .int .i64 x.plong]) := by
  refine run_storeAt_agg (P := Try.prog) w 26 g 7 [.int .i64 x.praw, .int .i64 x.pmid, .int .i64 x.plong] (by kernel_rfl) (fun j hj => ?_) (fun j _ => frozen_of_heap hg _) (fun v hv => ?_)
  · simp only [List.length_cons, List.length_nil] at hj
    rw [cell_of_heap hg, Array.getElem?_eq_getElem (by simp [Cmd.cells]; omega)]; rfl
  · simp only [List.mem_cons, List.not_mem_nil, or_false] at hv
    rcases hv with rfl | rfl | rfl <;> rfl
theorem load_range (w : World) (g : Nat) (x : Cmd) (T : TypeId) (hg : w.heap[g]? = some (.cells x.cells.toArray T (0, 0))) :
    (Instr.loadAt 24 (.pointer (some ⟨g, 5, none⟩))).run Try.prog w = .ok (.agg #[.int .i64 x.rlo, .int .i64 x.rhi]) w := by
  refine run_loadAt_agg (P := Try.prog) w 24 _ g 5 [.int .i64 x.rlo, .int .i64 x.rhi] Try.underlying24 rfl (by kernel_rfl) (fun j u hj => ?_)
  have hl := (List.getElem?_eq_some_iff.1 hj).1
  simp only [List.length_cons, List.length_nil] at hl
  rw [cell_of_heap hg]
  match j, hl, hj with
  | 0, _, hj => simpa [Cmd.cells] using hj
  | 1, _, hj => simpa [Cmd.cells] using hj
theorem store_range (w : World) (g : Nat) (x y : Cmd) (T : TypeId) (hg : w.heap[g]? = some (.cells y.cells.toArray T (0, 0))) :
    (Instr.storeAt 24 (.pointer (some ⟨g, 5, none⟩)) (.agg #[.int .i64 x.rlo, .int .i64 x.rhi])).run Try.prog w = .ok () (w.setCells g 5 [.int .i64 x.rlo, .int .i64 x.rhi]) := by
  refine run_storeAt_agg (P := Try.prog) w 24 g 5 [.int .i64 x.rlo, .int .i64 x.rhi] (by kernel_rfl) (fun j hj => ?_) (fun j _ => frozen_of_heap hg _) (fun v hv => ?_)
  · simp only [List.length_cons, List.length_nil] at hj
    rw [cell_of_heap hg, Array.getElem?_eq_getElem (by simp [Cmd.cells]; omega)]; rfl
  · simp only [List.mem_cons, List.not_mem_nil, or_false] at hv
    rcases hv with rfl | rfl <;> rfl
theorem load_hold (w : World) (g : Nat) (x : Cmd) (T : TypeId) (hg : w.heap[g]? = some (.cells x.cells.toArray T (0, 0))) :
    (Instr.loadAt 28 (.pointer (some ⟨g, 10, none⟩))).run Try.prog w = .ok (.agg #[.string ⟨x.hname.toArray⟩, .string ⟨x.hser.toArray⟩, .int .i64 x.hlo, .int .i64 x.hhi]) w := by
  refine run_loadAt_agg (P := Try.prog) w 28 _ g 10 [.string ⟨x.hname.toArray⟩, .string ⟨x.hser.toArray⟩, .int .i64 x.hlo, .int .i64 x.hhi] Try.underlying28 rfl (by kernel_rfl) (fun j u hj => ?_)
  have hl := (List.getElem?_eq_some_iff.1 hj).1
  simp only [List.length_cons, List.length_nil] at hl
  rw [cell_of_heap hg]
  match j, hl, hj with
  | 0, _, hj => simpa [Cmd.cells] using hj
  | 1, _, hj => simpa [Cmd.cells] using hj
  | 2, _, hj => simpa [Cmd.cells] using hj
  | 3, _, hj => simpa [Cmd.cells] using hj
theorem store_hold (w : World) (g : Nat) (x y : Cmd) (T : TypeId) (hg : w.heap[g]? = some (.cells y.cells.toArray T (0, 0))) :
    (Instr.storeAt 28 (.pointer (some ⟨g, 10, none⟩)) (.agg #[.string ⟨x.hname.toArray⟩, .string ⟨x.hser.toArray⟩, .int .i64 x.hlo, .int .i64 x.hhi])).run Try.prog w = .ok () (w.setCells g 10 [.string ⟨x.hname.toArray⟩, .string ⟨x.hser.toArray⟩, .int .i64 x.hlo, .int .i64 x.hhi]) := by
  refine run_storeAt_agg (P := Try.prog) w 28 g 10 [.string ⟨x.hname.toArray⟩, .string ⟨x.hser.toArray⟩, .int .i64 x.hlo, .int .i64 x.hhi] (by kernel_rfl) (fun j hj => ?_) (fun j _ => frozen_of_heap hg _) (fun v hv => ?_)
  · simp only [List.length_cons, List.length_nil] at hj
    rw [cell_of_heap hg, Array.getElem?_eq_getElem (by simp [Cmd.cells]; omega)]; rfl
  · simp only [List.mem_cons, List.not_mem_nil, or_false] at hv
    rcases hv with rfl | rfl | rfl | rfl <;> rfl

set_option maxRecDepth 100000 in
set_option maxHeartbeats 1000000 in
theorem only_any (x : Cmd) (ps : List Pnt) (w : World) (hv : Reads w 2 x.pv ps.length (ps.flatMap Pnt.cells)) (hn : ps.length ≤ 1000000) :
    Calls Try.prog 18 #[.agg #[.int .i64 x.kind, .string ⟨x.tenant.toArray⟩, .string ⟨x.series.toArray⟩, .string ⟨x.name.toArray⟩, x.pv, .int .i64 x.rlo, .int .i64 x.rhi, .int .i64 x.praw, .int .i64 x.pmid, .int .i64 x.plong, .string ⟨x.hname.toArray⟩, .string ⟨x.hser.toArray⟩, .int .i64 x.hlo, .int .i64 x.hhi, .int .i64 x.bytes, .int .i64 x.count, .int .i64 x.at_]] w fun e w' => ∃ pv, e = .returned (.agg (x.only pv).cells.toArray) ∧ Reads w' 2 pv (x.onlyPs ps).length ((x.onlyPs ps).flatMap Pnt.cells) ∧ Chg (fun _ => False) w w' := by
  obtain ⟨va, vc, hpv⟩ := hv.form
  have HPV : Hid (x.cells[4]? = some (.slice va ps.length vc)) := by show _ = _; rw [← hpv]; rfl
  obtain ⟨w1, hw1⟩ : ∃ w1, w1 = w.alloc (.cells #[.int .i64 x.kind, .string ⟨x.tenant.toArray⟩, .string ⟨x.series.toArray⟩, .string ⟨x.name.toArray⟩, x.pv, .int .i64 x.rlo, .int .i64 x.rhi, .int .i64 x.praw, .int .i64 x.pmid, .int .i64 x.plong, .string ⟨x.hname.toArray⟩, .string ⟨x.hser.toArray⟩, .int .i64 x.hlo, .int .i64 x.hhi, .int .i64 x.bytes, .int .i64 x.count, .int .i64 x.at_] 30) := ⟨_, rfl⟩
  have c1 : Chg (fun _ => False) w w1 := by rw [hw1]; exact (Chg.refl _ w).alloc _
  have z1 : w1.heap.size = w.heap.size + 1 := by rw [hw1]; simp
  have HX1 : Hid (w1.heap[w.heap.size]? = some (.cells x.cells.toArray 30 (0, 0))) := by rw [hw1]; exact heap_at_new _ _ _ rfl
  obtain ⟨w2, hw2⟩ : ∃ w2, w2 = w1.alloc (.cells Cmd.zero.cells.toArray 30) := ⟨_, rfl⟩
  have c2 : Chg (fun _ => False) w1 w2 := by rw [hw2]; exact (Chg.refl _ w1).alloc _
  have z2 : w2.heap.size = w.heap.size + 2 := by rw [hw2]; simp; omega
  have HR2 : Hid (w2.heap[w.heap.size + 1]? = some (.cells Cmd.zero.cells.toArray 30 (0, 0))) := by rw [hw2]; exact heap_at_new _ _ _ z1.symm
  obtain ⟨w3, hw3⟩ : ∃ w3, w3 = w2.alloc (.cells Cmd.zero.cells.toArray 30) := ⟨_, rfl⟩
  have c3 : Chg (fun _ => False) w2 w3 := by rw [hw3]; exact (Chg.refl _ w2).alloc _
  have HO3 : Hid (w3.heap[w.heap.size + 2]? = some (.cells Cmd.zero.cells.toArray 30 (0, 0))) := by rw [hw3]; exact heap_at_new _ _ _ z2.symm
  obtain ⟨w4, hw4⟩ : ∃ w4, w4 = w3.setCells (w.heap.size + 2) 0 x.base.cells := ⟨_, rfl⟩
  have cs : Chg (fun k => k = w.heap.size + 2) w3 w4 := by rw [hw4]; exact Chg.setCells _ _ _ _
  have HO4 : Hid (w4.heap[w.heap.size + 2]? = some (.cells x.base.cells.toArray 30 (0, 0))) := by rw [hw4]; exact heap_cmd w3 _ x.base Cmd.zero _ HO3.out
  have HX4 : Hid (w4.heap[w.heap.size]? = some (.cells x.cells.toArray 30 (0, 0))) := cs.heap ((c2.trans c3).heap HX1.out (fun h => h)) (fun h => absurd h (by omega))
  have HR4 : Hid (w4.heap[w.heap.size + 1]? = some (.cells Cmd.zero.cells.toArray 30 (0, 0))) := cs.heap (c3.heap HR2.out (fun h => h)) (fun h => absurd h (by omega))
  have c4 : Chg (fun _ => False) w w4 := ((c1.trans c2).trans c3).new cs (fun k h => by omega)
  have hx4 := hv.kept c4 (fun _ _ h => h)
  rw [hpv] at hx4
  have HV4 := Lib.hid hx4
  have HST : Hid ((Instr.storeAt 30 (.pointer (some ⟨w.heap.size + 2, 0, none⟩)) (.agg x.base.cells.toArray)).run Try.prog w3 = .ok () w4) := by show _ = _; rw [hw4]; exact store_cmd w3 _ x.base Cmd.zero _ HO3.out rfl
  have q1 : w3.cell? ⟨w.heap.size, 0, none⟩ = some (.int .i64 x.kind) := cell_cmd ((c2.trans c3).heap HX1.out (fun h => h)) 0 _ rfl
  have q2 : w4.cell? ⟨w.heap.size, 0, none⟩ = some (.int .i64 x.kind) := cell_cmd HX4.out 0 _ rfl
  have q1' : w2.cell? ⟨w.heap.size, 0, none⟩ = some (.int .i64 x.kind) := cell_cmd (c2.heap HX1.out (fun h => h)) 0 _ rfl
  have HW1 := Lib.hid hw1
  have HW2 := Lib.hid hw2
  have HW3 := Lib.hid hw3
  have HC4 := Lib.hid c4
  have hk' : Hid (x.kind = 0 ∨ x.kind = 1 ∨ x.kind = 2 ∨ x.kind = 3 ∨ x.kind = 4 ∨ x.kind = 5 ∨ x.kind = 6 ∨ x.kind = 7 ∨ x.kind = 8 ∨ x.kind = 9 ∨ (x.kind ≠ 0 ∧ x.kind ≠ 1 ∧ x.kind ≠ 2 ∧ x.kind ≠ 3 ∧ x.kind ≠ 4 ∧ x.kind ≠ 5 ∧ x.kind ≠ 6 ∧ x.kind ≠ 7 ∧ x.kind ≠ 8 ∧ x.kind ≠ 9)) := by show _ ∨ _; omega
  clear hw1 hw2 hw3 hw4 hv hx4 hpv c1 c2 c3 cs
  go_enter Try.func18, Try.ntmps18
  go_upto_block 0 with (first
    | refine wpList_allocN rfl 30 rfl (.agg Cmd.zero.cells.toArray) 17 (by kernel_rfl) w2 (w.heap.size + 1) (by rw [← HW1.out]; exact z1.symm) (by rw [← HW1.out]; exact HW2.out) ?_
    | refine wpList_allocN rfl 30 rfl (.agg Cmd.zero.cells.toArray) 17 (by kernel_rfl) w3 (w.heap.size + 2) z2.symm HW3.out ?_
    | refine wpList_store rfl 30 _ _ rfl _ _ _ rfl rfl HST.out ?_)
  clear q1 q1' HW1 HW2 HW3 HST
  go_cut [] from 9 to 82 (fun wx => ∃ pv, Hid (wx.heap[w.heap.size + 2]? = some (.cells (x.only pv).cells.toArray 30 (0, 0))) ∧ Hid (wx.heap[w.heap.size + 1]? = some (.cells Cmd.zero.cells.toArray 30 (0, 0))) ∧ Hid (Reads wx 2 pv (x.onlyPs ps).length ((x.onlyPs ps).flatMap Pnt.cells)) ∧ Hid (∀ k, pv.ownBlock = some k → ¬ k = w.heap.size + 1) ∧ Hid (Chg (fun _ => False) w wx))
  case first =>
    clear q2
    rcases hk'.out with h | h | h | h | h | h | h | h | h | h | ⟨g0, g1, g2, g3, g4, g5, g6, g7, g8, g9⟩
    · have b0 : (x.kind == 0) = true := by rw [h]; rfl
      have b1 : (x.kind == 1) = false := by rw [h]; rfl
      have H := Lib.hid h
      clear h
      go_wp2_with fail
      refine wpT.begin (fun k => k = w.heap.size + 2) 12 (by kernel_rfl) rfl ?_
      refine wpT.take 0 rfl (by kernel_rfl) (fun _ _ _ h => h) rfl (fun w' hw' => by go_simp <;> with_reducible rfl) ?_
      simp only [Act.put, List.setIfInBounds_toArray, List.set_cons_zero, List.set_cons_succ]
      refine wpT.take 1 rfl (by kernel_rfl) (fun _ _ _ h => h) rfl (fun w' hw' => by exact exec_load _ _ _ _ rfl rfl (load_strc w' _ _ (((Chg.refl (fun k => k = w.heap.size + 2) w4).drew.trans hw').cell (cell_cmd HX4.out 1 _ rfl) (fun h => by first | omega | (dsimp only at h; omega))))) ?_
      simp only [Act.put, List.setIfInBounds_toArray, List.set_cons_zero, List.set_cons_succ]
      refine wpT.take 2 rfl (by kernel_rfl) (fun _ _ _ h => h) rfl (fun w' hw' => by go_simp <;> with_reducible rfl) ?_
      simp only [Act.put, List.setIfInBounds_toArray, List.set_cons_zero, List.set_cons_succ]
      refine wpT.take 3 rfl (by kernel_rfl) (fun _ _ _ h => h) rfl (fun w' hw' => by exact exec_load _ _ _ _ rfl rfl (load_i64c w' _ _ (((Chg.refl (fun k => k = w.heap.size + 2) w4).drew.trans hw').cell (cell_cmd HX4.out 14 _ rfl) (fun h => by first | omega | (dsimp only at h; omega))))) ?_
      simp only [Act.put, List.setIfInBounds_toArray, List.set_cons_zero, List.set_cons_succ]
      refine wpT.take 4 rfl (by kernel_rfl) (fun _ _ _ h => h) rfl (fun w' hw' => by go_simp <;> with_reducible rfl) ?_
      simp only [Act.put, List.setIfInBounds_toArray, List.set_cons_zero, List.set_cons_succ]
      refine wpT.take 5 rfl (by kernel_rfl) (fun _ _ _ h => h) rfl (fun w' hw' => by exact exec_load _ _ _ _ rfl rfl (load_i64c w' _ _ (((Chg.refl (fun k => k = w.heap.size + 2) w4).drew.trans hw').cell (cell_cmd HX4.out 15 _ rfl) (fun h => by first | omega | (dsimp only at h; omega))))) ?_
      simp only [Act.put, List.setIfInBounds_toArray, List.set_cons_zero, List.set_cons_succ]
      obtain ⟨v0, hv0⟩ : ∃ v0, v0 = w4.drew := ⟨_, rfl⟩
      have HO0 := Lib.hid ((Chg.refl (fun _ => False) w4).drew.heap HO4.out (fun h => h))
      have cv0 : Chg (fun _ => False) w v0 := by rw [hv0]; exact c4.drew
      have HR0 : v0.heap[w.heap.size + 1]? = some (.cells Cmd.zero.cells.toArray 30 (0, 0)) := by rw [hv0]; exact (Chg.refl (fun _ => False) w4).drew.heap HR4.out (fun h => h)
      rw [← hv0] at HO0 ⊢
      refine wpT.take 6 rfl (by kernel_rfl) (fun _ _ _ h => h) rfl (fun w' hw' => by go_simp <;> with_reducible rfl) ?_
      simp only [Act.put, List.setIfInBounds_toArray, List.set_cons_zero, List.set_cons_succ]
      obtain ⟨v1, hv1⟩ : ∃ v1, v1 = v0.setCell ⟨w.heap.size + 2, 1, none⟩ (.string ⟨x.tenant.toArray⟩) := ⟨_, rfl⟩
      have HO1 : Hid (v1.heap[w.heap.size + 2]? = some (.cells ({ x.base with tenant := x.tenant }).cells.toArray 30 (0, 0))) := by rw [hv1]; exact Cat.heap_setCell_same HO0.out 1 _
      have ch1 : Chg (fun k => k = w.heap.size + 2) v0 v1 := by rw [hv1]; exact (Chg.refl (fun k => k = w.heap.size + 2) v0).setCell (p := ⟨w.heap.size + 2, 1, none⟩) (fun _ => rfl) _
      have st1 : (Instr.storeAt 9 (.pointer (some ⟨w.heap.size + 2, 1, none⟩)) (.string ⟨x.tenant.toArray⟩)).run Try.prog v0 = .ok () v1 := by rw [hv1]; exact store_strc v0 ⟨w.heap.size + 2, 1, none⟩ _ ⟨x.tenant.toArray⟩ (by rw [cell_of_heap HO0.out]; rfl) (frozen_of_heap HO0.out _)
      clear hv1
      refine wpT.call 7 rfl (by kernel_rfl) rfl (fun K hK => ?_)
      refine wp_skipped _ (exec_store _ _ _ _ _ _ rfl rfl rfl st1) ?_
      refine hK _ _ ch1 ?_
      clear hK st1
      try (simp only [Act.put, List.setIfInBounds_toArray, List.set_cons_zero, List.set_cons_succ])
      have cv1 := cv0.new ch1 (fun k h => by omega)
      refine wpT.take 8 rfl (by kernel_rfl) (fun _ _ _ h => h) rfl (fun w' hw' => by go_simp <;> with_reducible rfl) ?_
      simp only [Act.put, List.setIfInBounds_toArray, List.set_cons_zero, List.set_cons_succ]
      obtain ⟨v2, hv2⟩ : ∃ v2, v2 = v1.setCell ⟨w.heap.size + 2, 14, none⟩ (.int .i64 x.bytes) := ⟨_, rfl⟩
      have HO2 : Hid (v2.heap[w.heap.size + 2]? = some (.cells ({ x.base with tenant := x.tenant, bytes := x.bytes }).cells.toArray 30 (0, 0))) := by rw [hv2]; exact Cat.heap_setCell_same HO1.out 14 _
      have ch2 : Chg (fun k => k = w.heap.size + 2) v1 v2 := by rw [hv2]; exact (Chg.refl (fun k => k = w.heap.size + 2) v1).setCell (p := ⟨w.heap.size + 2, 14, none⟩) (fun _ => rfl) _
      have st2 : (Instr.storeAt 2 (.pointer (some ⟨w.heap.size + 2, 14, none⟩)) (.int .i64 x.bytes)).run Try.prog v1 = .ok () v2 := by rw [hv2]; exact store_i64c v1 ⟨w.heap.size + 2, 14, none⟩ _ x.bytes (by rw [cell_of_heap HO1.out]; rfl) (frozen_of_heap HO1.out _)
      clear hv2
      refine wpT.call 9 rfl (by kernel_rfl) rfl (fun K hK => ?_)
      refine wp_skipped _ (exec_store _ _ _ _ _ _ rfl rfl rfl st2) ?_
      refine hK _ _ ch2 ?_
      clear hK st2
      try (simp only [Act.put, List.setIfInBounds_toArray, List.set_cons_zero, List.set_cons_succ])
      have cv2 := cv1.new ch2 (fun k h => by omega)
      refine wpT.take 10 rfl (by kernel_rfl) (fun _ _ _ h => h) rfl (fun w' hw' => by go_simp <;> with_reducible rfl) ?_
      simp only [Act.put, List.setIfInBounds_toArray, List.set_cons_zero, List.set_cons_succ]
      obtain ⟨v3, hv3⟩ : ∃ v3, v3 = v2.setCell ⟨w.heap.size + 2, 15, none⟩ (.int .i64 x.count) := ⟨_, rfl⟩
      have HO3 : Hid (v3.heap[w.heap.size + 2]? = some (.cells ({ x.base with tenant := x.tenant, bytes := x.bytes, count := x.count }).cells.toArray 30 (0, 0))) := by rw [hv3]; exact Cat.heap_setCell_same HO2.out 15 _
      have ch3 : Chg (fun k => k = w.heap.size + 2) v2 v3 := by rw [hv3]; exact (Chg.refl (fun k => k = w.heap.size + 2) v2).setCell (p := ⟨w.heap.size + 2, 15, none⟩) (fun _ => rfl) _
      have st3 : (Instr.storeAt 2 (.pointer (some ⟨w.heap.size + 2, 15, none⟩)) (.int .i64 x.count)).run Try.prog v2 = .ok () v3 := by rw [hv3]; exact store_i64c v2 ⟨w.heap.size + 2, 15, none⟩ _ x.count (by rw [cell_of_heap HO2.out]; rfl) (frozen_of_heap HO2.out _)
      clear hv3
      refine wpT.call 11 rfl (by kernel_rfl) rfl (fun K hK => ?_)
      refine wp_skipped _ (exec_store _ _ _ _ _ _ rfl rfl rfl st3) ?_
      refine hK _ _ ch3 ?_
      clear hK st3
      try (simp only [Act.put, List.setIfInBounds_toArray, List.set_cons_zero, List.set_cons_succ])
      have cv3 := cv2.new ch3 (fun k h => by omega)
      refine wpT.done (by kernel_rfl) ?_
      go_wp2_with fail
      go_meet
      refine ⟨.slice none 0 0, ?_, ?_, ?_, fun k hk => by simp [Value.ownBlock] at hk, cv3⟩
      · have hxo : x.only (.slice none 0 0) = { x.base with tenant := x.tenant, bytes := x.bytes, count := x.count } := by unfold Cmd.only Cmd.base; simp [H.out]
        rw [hxo]
        exact HO3.out
      · exact (ch3.heap (ch2.heap (ch1.heap HR0 (fun h => absurd h (by omega))) (fun h => absurd h (by omega))) (fun h => absurd h (by omega)))
      · rw [show x.onlyPs ps = [] from by unfold Cmd.onlyPs; simp [H.out]]
        exact Reads.nil _ 2
    · have b0 : (x.kind == 0) = false := by rw [h]; rfl
      have b1 : (x.kind == 1) = true := by rw [h]; rfl
      have H := Lib.hid h
      clear h
      go_wp2_with fail
      refine wpT.begin (fun k => k = w.heap.size + 2) 12 (by kernel_rfl) rfl ?_
      refine wpT.take 0 rfl (by kernel_rfl) (fun _ _ _ h => h) rfl (fun w' hw' => by go_simp <;> with_reducible rfl) ?_
      simp only [Act.put, List.setIfInBounds_toArray, List.set_cons_zero, List.set_cons_succ]
      refine wpT.take 1 rfl (by kernel_rfl) (fun _ _ _ h => h) rfl (fun w' hw' => by exact exec_load _ _ _ _ rfl rfl (load_strc w' _ _ (((Chg.refl (fun k => k = w.heap.size + 2) w4).drew.trans hw').cell (cell_cmd HX4.out 1 _ rfl) (fun h => by first | omega | (dsimp only at h; omega))))) ?_
      simp only [Act.put, List.setIfInBounds_toArray, List.set_cons_zero, List.set_cons_succ]
      refine wpT.take 2 rfl (by kernel_rfl) (fun _ _ _ h => h) rfl (fun w' hw' => by go_simp <;> with_reducible rfl) ?_
      simp only [Act.put, List.setIfInBounds_toArray, List.set_cons_zero, List.set_cons_succ]
      refine wpT.take 3 rfl (by kernel_rfl) (fun _ _ _ h => h) rfl (fun w' hw' => by exact exec_load _ _ _ _ rfl rfl (load_i64c w' _ _ (((Chg.refl (fun k => k = w.heap.size + 2) w4).drew.trans hw').cell (cell_cmd HX4.out 14 _ rfl) (fun h => by first | omega | (dsimp only at h; omega))))) ?_
      simp only [Act.put, List.setIfInBounds_toArray, List.set_cons_zero, List.set_cons_succ]
      refine wpT.take 4 rfl (by kernel_rfl) (fun _ _ _ h => h) rfl (fun w' hw' => by go_simp <;> with_reducible rfl) ?_
      simp only [Act.put, List.setIfInBounds_toArray, List.set_cons_zero, List.set_cons_succ]
      refine wpT.take 5 rfl (by kernel_rfl) (fun _ _ _ h => h) rfl (fun w' hw' => by exact exec_load _ _ _ _ rfl rfl (load_i64c w' _ _ (((Chg.refl (fun k => k = w.heap.size + 2) w4).drew.trans hw').cell (cell_cmd HX4.out 15 _ rfl) (fun h => by first | omega | (dsimp only at h; omega))))) ?_
      simp only [Act.put, List.setIfInBounds_toArray, List.set_cons_zero, List.set_cons_succ]
      obtain ⟨v0, hv0⟩ : ∃ v0, v0 = w4.drew := ⟨_, rfl⟩
      have HO0 := Lib.hid ((Chg.refl (fun _ => False) w4).drew.heap HO4.out (fun h => h))
      have cv0 : Chg (fun _ => False) w v0 := by rw [hv0]; exact c4.drew
      have HR0 : v0.heap[w.heap.size + 1]? = some (.cells Cmd.zero.cells.toArray 30 (0, 0)) := by rw [hv0]; exact (Chg.refl (fun _ => False) w4).drew.heap HR4.out (fun h => h)
      rw [← hv0] at HO0 ⊢
      refine wpT.take 6 rfl (by kernel_rfl) (fun _ _ _ h => h) rfl (fun w' hw' => by go_simp <;> with_reducible rfl) ?_
      simp only [Act.put, List.setIfInBounds_toArray, List.set_cons_zero, List.set_cons_succ]
      obtain ⟨v1, hv1⟩ : ∃ v1, v1 = v0.setCell ⟨w.heap.size + 2, 1, none⟩ (.string ⟨x.tenant.toArray⟩) := ⟨_, rfl⟩
      have HO1 : Hid (v1.heap[w.heap.size + 2]? = some (.cells ({ x.base with tenant := x.tenant }).cells.toArray 30 (0, 0))) := by rw [hv1]; exact Cat.heap_setCell_same HO0.out 1 _
      have ch1 : Chg (fun k => k = w.heap.size + 2) v0 v1 := by rw [hv1]; exact (Chg.refl (fun k => k = w.heap.size + 2) v0).setCell (p := ⟨w.heap.size + 2, 1, none⟩) (fun _ => rfl) _
      have st1 : (Instr.storeAt 9 (.pointer (some ⟨w.heap.size + 2, 1, none⟩)) (.string ⟨x.tenant.toArray⟩)).run Try.prog v0 = .ok () v1 := by rw [hv1]; exact store_strc v0 ⟨w.heap.size + 2, 1, none⟩ _ ⟨x.tenant.toArray⟩ (by rw [cell_of_heap HO0.out]; rfl) (frozen_of_heap HO0.out _)
      clear hv1
      refine wpT.call 7 rfl (by kernel_rfl) rfl (fun K hK => ?_)
      refine wp_skipped _ (exec_store _ _ _ _ _ _ rfl rfl rfl st1) ?_
      refine hK _ _ ch1 ?_
      clear hK st1
      try (simp only [Act.put, List.setIfInBounds_toArray, List.set_cons_zero, List.set_cons_succ])
      have cv1 := cv0.new ch1 (fun k h => by omega)
      refine wpT.take 8 rfl (by kernel_rfl) (fun _ _ _ h => h) rfl (fun w' hw' => by go_simp <;> with_reducible rfl) ?_
      simp only [Act.put, List.setIfInBounds_toArray, List.set_cons_zero, List.set_cons_succ]
      obtain ⟨v2, hv2⟩ : ∃ v2, v2 = v1.setCell ⟨w.heap.size + 2, 14, none⟩ (.int .i64 x.bytes) := ⟨_, rfl⟩
      have HO2 : Hid (v2.heap[w.heap.size + 2]? = some (.cells ({ x.base with tenant := x.tenant, bytes := x.bytes }).cells.toArray 30 (0, 0))) := by rw [hv2]; exact Cat.heap_setCell_same HO1.out 14 _
      have ch2 : Chg (fun k => k = w.heap.size + 2) v1 v2 := by rw [hv2]; exact (Chg.refl (fun k => k = w.heap.size + 2) v1).setCell (p := ⟨w.heap.size + 2, 14, none⟩) (fun _ => rfl) _
      have st2 : (Instr.storeAt 2 (.pointer (some ⟨w.heap.size + 2, 14, none⟩)) (.int .i64 x.bytes)).run Try.prog v1 = .ok () v2 := by rw [hv2]; exact store_i64c v1 ⟨w.heap.size + 2, 14, none⟩ _ x.bytes (by rw [cell_of_heap HO1.out]; rfl) (frozen_of_heap HO1.out _)
      clear hv2
      refine wpT.call 9 rfl (by kernel_rfl) rfl (fun K hK => ?_)
      refine wp_skipped _ (exec_store _ _ _ _ _ _ rfl rfl rfl st2) ?_
      refine hK _ _ ch2 ?_
      clear hK st2
      try (simp only [Act.put, List.setIfInBounds_toArray, List.set_cons_zero, List.set_cons_succ])
      have cv2 := cv1.new ch2 (fun k h => by omega)
      refine wpT.take 10 rfl (by kernel_rfl) (fun _ _ _ h => h) rfl (fun w' hw' => by go_simp <;> with_reducible rfl) ?_
      simp only [Act.put, List.setIfInBounds_toArray, List.set_cons_zero, List.set_cons_succ]
      obtain ⟨v3, hv3⟩ : ∃ v3, v3 = v2.setCell ⟨w.heap.size + 2, 15, none⟩ (.int .i64 x.count) := ⟨_, rfl⟩
      have HO3 : Hid (v3.heap[w.heap.size + 2]? = some (.cells ({ x.base with tenant := x.tenant, bytes := x.bytes, count := x.count }).cells.toArray 30 (0, 0))) := by rw [hv3]; exact Cat.heap_setCell_same HO2.out 15 _
      have ch3 : Chg (fun k => k = w.heap.size + 2) v2 v3 := by rw [hv3]; exact (Chg.refl (fun k => k = w.heap.size + 2) v2).setCell (p := ⟨w.heap.size + 2, 15, none⟩) (fun _ => rfl) _
      have st3 : (Instr.storeAt 2 (.pointer (some ⟨w.heap.size + 2, 15, none⟩)) (.int .i64 x.count)).run Try.prog v2 = .ok () v3 := by rw [hv3]; exact store_i64c v2 ⟨w.heap.size + 2, 15, none⟩ _ x.count (by rw [cell_of_heap HO2.out]; rfl) (frozen_of_heap HO2.out _)
      clear hv3
      refine wpT.call 11 rfl (by kernel_rfl) rfl (fun K hK => ?_)
      refine wp_skipped _ (exec_store _ _ _ _ _ _ rfl rfl rfl st3) ?_
      refine hK _ _ ch3 ?_
      clear hK st3
      try (simp only [Act.put, List.setIfInBounds_toArray, List.set_cons_zero, List.set_cons_succ])
      have cv3 := cv2.new ch3 (fun k h => by omega)
      refine wpT.done (by kernel_rfl) ?_
      go_wp2_with fail
      go_meet
      refine ⟨.slice none 0 0, ?_, ?_, ?_, fun k hk => by simp [Value.ownBlock] at hk, cv3⟩
      · have hxo : x.only (.slice none 0 0) = { x.base with tenant := x.tenant, bytes := x.bytes, count := x.count } := by unfold Cmd.only Cmd.base; simp [H.out]
        rw [hxo]
        exact HO3.out
      · exact (ch3.heap (ch2.heap (ch1.heap HR0 (fun h => absurd h (by omega))) (fun h => absurd h (by omega))) (fun h => absurd h (by omega)))
      · rw [show x.onlyPs ps = [] from by unfold Cmd.onlyPs; simp [H.out]]
        exact Reads.nil _ 2
    · have b0 : (x.kind == 0) = false := by rw [h]; rfl
      have b1 : (x.kind == 1) = false := by rw [h]; rfl
      have b2 : (x.kind == 2) = true := by rw [h]; rfl
      have H := Lib.hid h
      clear h
      have p1 : w4.cell? ⟨w.heap.size, 1, none⟩ = some (.string ⟨x.tenant.toArray⟩) := cell_cmd HX4.out 1 _ rfl
      have p2 : w4.cell? ⟨w.heap.size + 2, 1, none⟩ = some (.string ⟨#[]⟩) := cell_cmd HO4.out 1 _ rfl
      have p3 : w4.frozen? ⟨w.heap.size + 2, 1, none⟩ = false := frozen_of_heap HO4.out _
      go_wp2_with fail
      go_meet
      have ch : Chg (fun k => k = w.heap.size + 2) w4 (w4.setCell ⟨w.heap.size + 2, 1, none⟩ (.string ⟨x.tenant.toArray⟩)) := (Chg.refl (fun k => k = w.heap.size + 2) w4).setCell (p := ⟨w.heap.size + 2, 1, none⟩) (fun _ => rfl) _
      refine ⟨.slice none 0 0, ?_, ch.heap HR4.out (fun h => absurd h (by omega)), ?_, fun k hk => by simp [Value.ownBlock] at hk, c4.new ch (fun k h => by omega)⟩
      · have hxo : x.only (.slice none 0 0) = { x.base with tenant := x.tenant } := by unfold Cmd.only Cmd.base; simp [H.out]
        rw [hxo]
        exact Cat.heap_setCell_same HO4.out 1 _
      · rw [show x.onlyPs ps = [] from by unfold Cmd.onlyPs; simp [H.out]]
        exact Reads.nil _ 2
    · have b0 : (x.kind == 0) = false := by rw [h]; rfl
      have b1 : (x.kind == 1) = false := by rw [h]; rfl
      have b2 : (x.kind == 2) = false := by rw [h]; rfl
      have b3 : (x.kind == 3) = true := by rw [h]; rfl
      have H := Lib.hid h
      clear h
      go_wp2_with fail
      refine wpT.begin (fun k => k = w.heap.size + 2) 13 (by kernel_rfl) rfl ?_
      refine wpT.take 0 rfl (by kernel_rfl) (fun _ _ _ h => h) rfl (fun w' hw' => by go_simp <;> with_reducible rfl) ?_
      simp only [Act.put, List.setIfInBounds_toArray, List.set_cons_zero, List.set_cons_succ]
      refine wpT.take 1 rfl (by kernel_rfl) (fun _ _ _ h => h) rfl (fun w' hw' => by exact exec_load _ _ _ _ rfl rfl (load_strc w' _ _ (((Chg.refl (fun k => k = w.heap.size + 2) w4).drew.trans hw').cell (cell_cmd HX4.out 1 _ rfl) (fun h => by first | omega | (dsimp only at h; omega))))) ?_
      simp only [Act.put, List.setIfInBounds_toArray, List.set_cons_zero, List.set_cons_succ]
      refine wpT.take 2 rfl (by kernel_rfl) (fun _ _ _ h => h) rfl (fun w' hw' => by go_simp <;> with_reducible rfl) ?_
      simp only [Act.put, List.setIfInBounds_toArray, List.set_cons_zero, List.set_cons_succ]
      refine wpT.take 3 rfl (by kernel_rfl) (fun _ _ _ h => h) rfl (fun w' hw' => by exact exec_load _ _ _ _ rfl rfl (load_strc w' _ _ (((Chg.refl (fun k => k = w.heap.size + 2) w4).drew.trans hw').cell (cell_cmd HX4.out 2 _ rfl) (fun h => by first | omega | (dsimp only at h; omega))))) ?_
      simp only [Act.put, List.setIfInBounds_toArray, List.set_cons_zero, List.set_cons_succ]
      refine wpT.take 4 rfl (by kernel_rfl) (fun _ _ _ h => h) rfl (fun w' hw' => by go_simp <;> with_reducible rfl) ?_
      simp only [Act.put, List.setIfInBounds_toArray, List.set_cons_zero, List.set_cons_succ]
      refine wpT.take 5 rfl (by kernel_rfl) (fun _ _ _ h => h) rfl (fun w' hw' => by exact exec_load _ _ _ _ rfl rfl (load_pts w' _ _ _ _ (((Chg.refl (fun k => k = w.heap.size + 2) w4).drew.trans hw').cell (cell_cmd HX4.out 4 _ HPV.out) (fun h => by first | omega | (dsimp only at h; omega))))) ?_
      simp only [Act.put, List.setIfInBounds_toArray, List.set_cons_zero, List.set_cons_succ]
      obtain ⟨v0, hv0⟩ : ∃ v0, v0 = w4.drew := ⟨_, rfl⟩
      have HO0 := Lib.hid ((Chg.refl (fun _ => False) w4).drew.heap HO4.out (fun h => h))
      have cv0 : Chg (fun _ => False) w v0 := by rw [hv0]; exact c4.drew
      have HR0 : v0.heap[w.heap.size + 1]? = some (.cells Cmd.zero.cells.toArray 30 (0, 0)) := by rw [hv0]; exact (Chg.refl (fun _ => False) w4).drew.heap HR4.out (fun h => h)
      rw [← hv0] at HO0 ⊢
      have HV0 : Hid (Reads v0 2 (.slice va ps.length vc) ps.length (ps.flatMap Pnt.cells)) := by rw [hv0]; exact HV4.out.kept (S := fun _ => False) (Chg.refl _ w4).drew (fun _ _ h => h)
      refine wpT.take 7 rfl (by kernel_rfl) (fun _ _ _ h => h) rfl (fun w' hw' => by go_simp <;> with_reducible rfl) ?_
      simp only [Act.put, List.setIfInBounds_toArray, List.set_cons_zero, List.set_cons_succ]
      clear hv0
      refine wpT.call 6 rfl (by kernel_rfl) rfl (fun K hK => ?_)
      go_wp2_with fail
      refine (cloneP_any _ ps v0 HV0.out (by omega)).mono ?_
      rintro e v1 ⟨pv', rfl, hv1, hfr, cl1⟩
      refine hK _ _ (cl1.mono (fun _ _ h => h.elim)) ?_
      clear hK
      try (simp only [Act.put, List.setIfInBounds_toArray, List.set_cons_zero, List.set_cons_succ])
      obtain ⟨pa, pc, rfl⟩ := hv1.form
      have HO1 := Lib.hid (cl1.heap HO0.out (fun h => h))
      have cv1 := cv0.trans cl1
      have hnb : ∀ k, (Value.slice pa ps.length pc).ownBlock = some k → ¬ k = w.heap.size + 2 := fun k hk e => by have := hfr k hk; have := (Array.getElem?_eq_some_iff.1 HO0.out).1; omega
      have hnb2 : Hid (∀ k, (Value.slice pa ps.length pc).ownBlock = some k → ¬ k = w.heap.size + 1) := fun k hk e => by have := hfr k hk; have := (Array.getElem?_eq_some_iff.1 HR0).1; omega
      have HP := Lib.hid hv1
      clear hv1
      obtain ⟨v2, hv2⟩ : ∃ v2, v2 = v1.setCell ⟨w.heap.size + 2, 1, none⟩ (.string ⟨x.tenant.toArray⟩) := ⟨_, rfl⟩
      have HO2 : Hid (v2.heap[w.heap.size + 2]? = some (.cells ({ x.base with tenant := x.tenant }).cells.toArray 30 (0, 0))) := by rw [hv2]; exact Cat.heap_setCell_same HO1.out 1 _
      have ch2 : Chg (fun k => k = w.heap.size + 2) v1 v2 := by rw [hv2]; exact (Chg.refl (fun k => k = w.heap.size + 2) v1).setCell (p := ⟨w.heap.size + 2, 1, none⟩) (fun _ => rfl) _
      have st2 : (Instr.storeAt 9 (.pointer (some ⟨w.heap.size + 2, 1, none⟩)) (.string ⟨x.tenant.toArray⟩)).run Try.prog v1 = .ok () v2 := by rw [hv2]; exact store_strc v1 ⟨w.heap.size + 2, 1, none⟩ _ ⟨x.tenant.toArray⟩ (by rw [cell_of_heap HO1.out]; rfl) (frozen_of_heap HO1.out _)
      clear hv2
      refine wpT.call 8 rfl (by kernel_rfl) rfl (fun K hK => ?_)
      refine wp_skipped _ (exec_store _ _ _ _ _ _ rfl rfl rfl st2) ?_
      refine hK _ _ ch2 ?_
      clear hK st2
      try (simp only [Act.put, List.setIfInBounds_toArray, List.set_cons_zero, List.set_cons_succ])
      have cv2 := cv1.new ch2 (fun k h => by omega)
      refine wpT.take 9 rfl (by kernel_rfl) (fun _ _ _ h => h) rfl (fun w' hw' => by go_simp <;> with_reducible rfl) ?_
      simp only [Act.put, List.setIfInBounds_toArray, List.set_cons_zero, List.set_cons_succ]
      obtain ⟨v3, hv3⟩ : ∃ v3, v3 = v2.setCell ⟨w.heap.size + 2, 2, none⟩ (.string ⟨x.series.toArray⟩) := ⟨_, rfl⟩
      have HO3 : Hid (v3.heap[w.heap.size + 2]? = some (.cells ({ x.base with tenant := x.tenant, series := x.series }).cells.toArray 30 (0, 0))) := by rw [hv3]; exact Cat.heap_setCell_same HO2.out 2 _
      have ch3 : Chg (fun k => k = w.heap.size + 2) v2 v3 := by rw [hv3]; exact (Chg.refl (fun k => k = w.heap.size + 2) v2).setCell (p := ⟨w.heap.size + 2, 2, none⟩) (fun _ => rfl) _
      have st3 : (Instr.storeAt 9 (.pointer (some ⟨w.heap.size + 2, 2, none⟩)) (.string ⟨x.series.toArray⟩)).run Try.prog v2 = .ok () v3 := by rw [hv3]; exact store_strc v2 ⟨w.heap.size + 2, 2, none⟩ _ ⟨x.series.toArray⟩ (by rw [cell_of_heap HO2.out]; rfl) (frozen_of_heap HO2.out _)
      clear hv3
      refine wpT.call 10 rfl (by kernel_rfl) rfl (fun K hK => ?_)
      refine wp_skipped _ (exec_store _ _ _ _ _ _ rfl rfl rfl st3) ?_
      refine hK _ _ ch3 ?_
      clear hK st3
      try (simp only [Act.put, List.setIfInBounds_toArray, List.set_cons_zero, List.set_cons_succ])
      have cv3 := cv2.new ch3 (fun k h => by omega)
      refine wpT.take 11 rfl (by kernel_rfl) (fun _ _ _ h => h) rfl (fun w' hw' => by go_simp <;> with_reducible rfl) ?_
      simp only [Act.put, List.setIfInBounds_toArray, List.set_cons_zero, List.set_cons_succ]
      obtain ⟨v4, hv4⟩ : ∃ v4, v4 = v3.setCell ⟨w.heap.size + 2, 4, none⟩ (.slice pa ps.length pc) := ⟨_, rfl⟩
      have HO4 : Hid (v4.heap[w.heap.size + 2]? = some (.cells ({ x.base with tenant := x.tenant, series := x.series, pv := .slice pa ps.length pc }).cells.toArray 30 (0, 0))) := by rw [hv4]; exact Cat.heap_setCell_same HO3.out 4 _
      have ch4 : Chg (fun k => k = w.heap.size + 2) v3 v4 := by rw [hv4]; exact (Chg.refl (fun k => k = w.heap.size + 2) v3).setCell (p := ⟨w.heap.size + 2, 4, none⟩) (fun _ => rfl) _
      have st4 : (Instr.storeAt 22 (.pointer (some ⟨w.heap.size + 2, 4, none⟩)) (.slice pa ps.length pc)).run Try.prog v3 = .ok () v4 := by rw [hv4]; exact store_ptsc v3 ⟨w.heap.size + 2, 4, none⟩ _ _ _ _ (by rw [cell_of_heap HO3.out]; rfl) (frozen_of_heap HO3.out _)
      clear hv4
      refine wpT.call 12 rfl (by kernel_rfl) rfl (fun K hK => ?_)
      refine wp_skipped _ (exec_store _ _ _ _ _ _ rfl rfl rfl st4) ?_
      refine hK _ _ ch4 ?_
      clear hK st4
      try (simp only [Act.put, List.setIfInBounds_toArray, List.set_cons_zero, List.set_cons_succ])
      have cv4 := cv3.new ch4 (fun k h => by omega)
      refine wpT.done (by kernel_rfl) ?_
      go_wp2_with fail
      go_meet
      refine ⟨.slice pa ps.length pc, ?_, ?_, ?_, hnb2, cv4⟩
      · have hxo : x.only (.slice pa ps.length pc) = { x.base with tenant := x.tenant, series := x.series, pv := .slice pa ps.length pc } := by unfold Cmd.only Cmd.base; simp [H.out]
        rw [hxo]
        exact HO4.out
      · exact (ch4.heap (ch3.heap (ch2.heap (cl1.heap HR0 (fun h => h)) (fun h => absurd h (by omega))) (fun h => absurd h (by omega))) (fun h => absurd h (by omega)))
      · rw [show x.onlyPs ps = ps from by unfold Cmd.onlyPs; simp [H.out]]
        exact (((HP.out.kept ch2 hnb).kept ch3 hnb).kept ch4 hnb)
    · have b0 : (x.kind == 0) = false := by rw [h]; rfl
      have b1 : (x.kind == 1) = false := by rw [h]; rfl
      have b2 : (x.kind == 2) = false := by rw [h]; rfl
      have b3 : (x.kind == 3) = false := by rw [h]; rfl
      have b4 : (x.kind == 4) = true := by rw [h]; rfl
      have H := Lib.hid h
      clear h
      go_wp2_with fail
      refine wpT.begin (fun k => k = w.heap.size + 2) 8 (by kernel_rfl) rfl ?_
      refine wpT.take 0 rfl (by kernel_rfl) (fun _ _ _ h => h) rfl (fun w' hw' => by go_simp <;> with_reducible rfl) ?_
      simp only [Act.put, List.setIfInBounds_toArray, List.set_cons_zero, List.set_cons_succ]
      refine wpT.take 1 rfl (by kernel_rfl) (fun _ _ _ h => h) rfl (fun w' hw' => by exact exec_load _ _ _ _ rfl rfl (load_strc w' _ _ (((Chg.refl (fun k => k = w.heap.size + 2) w4).drew.trans hw').cell (cell_cmd HX4.out 1 _ rfl) (fun h => by first | omega | (dsimp only at h; omega))))) ?_
      simp only [Act.put, List.setIfInBounds_toArray, List.set_cons_zero, List.set_cons_succ]
      refine wpT.take 2 rfl (by kernel_rfl) (fun _ _ _ h => h) rfl (fun w' hw' => by go_simp <;> with_reducible rfl) ?_
      simp only [Act.put, List.setIfInBounds_toArray, List.set_cons_zero, List.set_cons_succ]
      refine wpT.take 3 rfl (by kernel_rfl) (fun _ _ _ h => h) rfl (fun w' hw' => by exact exec_load _ _ _ _ rfl rfl (load_policy w' _ x _ (((Chg.refl (fun k => k = w.heap.size + 2) w4).drew.trans hw').heap HX4.out (fun h => by first | omega | (dsimp only at h; omega))))) ?_
      simp only [Act.put, List.setIfInBounds_toArray, List.set_cons_zero, List.set_cons_succ]
      obtain ⟨v0, hv0⟩ : ∃ v0, v0 = w4.drew := ⟨_, rfl⟩
      have HO0 := Lib.hid ((Chg.refl (fun _ => False) w4).drew.heap HO4.out (fun h => h))
      have cv0 : Chg (fun _ => False) w v0 := by rw [hv0]; exact c4.drew
      have HR0 : v0.heap[w.heap.size + 1]? = some (.cells Cmd.zero.cells.toArray 30 (0, 0)) := by rw [hv0]; exact (Chg.refl (fun _ => False) w4).drew.heap HR4.out (fun h => h)
      rw [← hv0] at HO0 ⊢
      refine wpT.take 4 rfl (by kernel_rfl) (fun _ _ _ h => h) rfl (fun w' hw' => by go_simp <;> with_reducible rfl) ?_
      simp only [Act.put, List.setIfInBounds_toArray, List.set_cons_zero, List.set_cons_succ]
      obtain ⟨v1, hv1⟩ : ∃ v1, v1 = v0.setCell ⟨w.heap.size + 2, 1, none⟩ (.string ⟨x.tenant.toArray⟩) := ⟨_, rfl⟩
      have HO1 : Hid (v1.heap[w.heap.size + 2]? = some (.cells ({ x.base with tenant := x.tenant }).cells.toArray 30 (0, 0))) := by rw [hv1]; exact Cat.heap_setCell_same HO0.out 1 _
      have ch1 : Chg (fun k => k = w.heap.size + 2) v0 v1 := by rw [hv1]; exact (Chg.refl (fun k => k = w.heap.size + 2) v0).setCell (p := ⟨w.heap.size + 2, 1, none⟩) (fun _ => rfl) _
      have st1 : (Instr.storeAt 9 (.pointer (some ⟨w.heap.size + 2, 1, none⟩)) (.string ⟨x.tenant.toArray⟩)).run Try.prog v0 = .ok () v1 := by rw [hv1]; exact store_strc v0 ⟨w.heap.size + 2, 1, none⟩ _ ⟨x.tenant.toArray⟩ (by rw [cell_of_heap HO0.out]; rfl) (frozen_of_heap HO0.out _)
      clear hv1
      refine wpT.call 5 rfl (by kernel_rfl) rfl (fun K hK => ?_)
      refine wp_skipped _ (exec_store _ _ _ _ _ _ rfl rfl rfl st1) ?_
      refine hK _ _ ch1 ?_
      clear hK st1
      try (simp only [Act.put, List.setIfInBounds_toArray, List.set_cons_zero, List.set_cons_succ])
      have cv1 := cv0.new ch1 (fun k h => by omega)
      refine wpT.take 6 rfl (by kernel_rfl) (fun _ _ _ h => h) rfl (fun w' hw' => by go_simp <;> with_reducible rfl) ?_
      simp only [Act.put, List.setIfInBounds_toArray, List.set_cons_zero, List.set_cons_succ]
      obtain ⟨v2, hv2⟩ : ∃ v2, v2 = v1.setCells (w.heap.size + 2) 7 [.int .i64 x.praw, .int .i64 x.pmid, .int .i64 x.plong] := ⟨_, rfl⟩
      have HO2 : Hid (v2.heap[w.heap.size + 2]? = some (.cells ({ x.base with tenant := x.tenant, praw := x.praw, pmid := x.pmid, plong := x.plong }).cells.toArray 30 (0, 0))) := by rw [hv2]; exact heap_setCells_same [.int .i64 x.praw, .int .i64 x.pmid, .int .i64 x.plong] 7 v1 _ HO1.out
      have ch2 : Chg (fun k => k = w.heap.size + 2) v1 v2 := by rw [hv2]; exact Chg.setCells v1 (w.heap.size + 2) 7 [.int .i64 x.praw, .int .i64 x.pmid, .int .i64 x.plong]
      have st2 : (Instr.storeAt 26 (.pointer (some ⟨w.heap.size + 2, 7, none⟩)) (.agg #[.int .i64 x.praw, .int .i64 x.pmid, .int .i64 x.plong])).run Try.prog v1 = .ok () v2 := by rw [hv2]; exact store_policy v1 _ x ({ x.base with tenant := x.tenant }) _ HO1.out
      clear hv2
      refine wpT.call 7 rfl (by kernel_rfl) rfl (fun K hK => ?_)
      refine wp_skipped _ (exec_store _ _ _ _ _ _ rfl rfl rfl st2) ?_
      refine hK _ _ ch2 ?_
      clear hK st2
      try (simp only [Act.put, List.setIfInBounds_toArray, List.set_cons_zero, List.set_cons_succ])
      have cv2 := cv1.new ch2 (fun k h => by omega)
      refine wpT.done (by kernel_rfl) ?_
      go_wp2_with fail
      go_meet
      refine ⟨.slice none 0 0, ?_, ?_, ?_, fun k hk => by simp [Value.ownBlock] at hk, cv2⟩
      · have hxo : x.only (.slice none 0 0) = { x.base with tenant := x.tenant, praw := x.praw, pmid := x.pmid, plong := x.plong } := by unfold Cmd.only Cmd.base; simp [H.out]
        rw [hxo]
        exact HO2.out
      · exact (ch2.heap (ch1.heap HR0 (fun h => absurd h (by omega))) (fun h => absurd h (by omega)))
      · rw [show x.onlyPs ps = [] from by unfold Cmd.onlyPs; simp [H.out]]
        exact Reads.nil _ 2
    · have b0 : (x.kind == 0) = false := by rw [h]; rfl
      have b1 : (x.kind == 1) = false := by rw [h]; rfl
      have b2 : (x.kind == 2) = false := by rw [h]; rfl
      have b3 : (x.kind == 3) = false := by rw [h]; rfl
      have b4 : (x.kind == 4) = false := by rw [h]; rfl
      have b5 : (x.kind == 5) = true := by rw [h]; rfl
      have H := Lib.hid h
      clear h
      go_wp2_with fail
      refine wpT.begin (fun k => k = w.heap.size + 2) 8 (by kernel_rfl) rfl ?_
      refine wpT.take 0 rfl (by kernel_rfl) (fun _ _ _ h => h) rfl (fun w' hw' => by go_simp <;> with_reducible rfl) ?_
      simp only [Act.put, List.setIfInBounds_toArray, List.set_cons_zero, List.set_cons_succ]
      refine wpT.take 1 rfl (by kernel_rfl) (fun _ _ _ h => h) rfl (fun w' hw' => by exact exec_load _ _ _ _ rfl rfl (load_strc w' _ _ (((Chg.refl (fun k => k = w.heap.size + 2) w4).drew.trans hw').cell (cell_cmd HX4.out 1 _ rfl) (fun h => by first | omega | (dsimp only at h; omega))))) ?_
      simp only [Act.put, List.setIfInBounds_toArray, List.set_cons_zero, List.set_cons_succ]
      refine wpT.take 2 rfl (by kernel_rfl) (fun _ _ _ h => h) rfl (fun w' hw' => by go_simp <;> with_reducible rfl) ?_
      simp only [Act.put, List.setIfInBounds_toArray, List.set_cons_zero, List.set_cons_succ]
      refine wpT.take 3 rfl (by kernel_rfl) (fun _ _ _ h => h) rfl (fun w' hw' => by exact exec_load _ _ _ _ rfl rfl (load_hold w' _ x _ (((Chg.refl (fun k => k = w.heap.size + 2) w4).drew.trans hw').heap HX4.out (fun h => by first | omega | (dsimp only at h; omega))))) ?_
      simp only [Act.put, List.setIfInBounds_toArray, List.set_cons_zero, List.set_cons_succ]
      obtain ⟨v0, hv0⟩ : ∃ v0, v0 = w4.drew := ⟨_, rfl⟩
      have HO0 := Lib.hid ((Chg.refl (fun _ => False) w4).drew.heap HO4.out (fun h => h))
      have cv0 : Chg (fun _ => False) w v0 := by rw [hv0]; exact c4.drew
      have HR0 : v0.heap[w.heap.size + 1]? = some (.cells Cmd.zero.cells.toArray 30 (0, 0)) := by rw [hv0]; exact (Chg.refl (fun _ => False) w4).drew.heap HR4.out (fun h => h)
      rw [← hv0] at HO0 ⊢
      refine wpT.take 4 rfl (by kernel_rfl) (fun _ _ _ h => h) rfl (fun w' hw' => by go_simp <;> with_reducible rfl) ?_
      simp only [Act.put, List.setIfInBounds_toArray, List.set_cons_zero, List.set_cons_succ]
      obtain ⟨v1, hv1⟩ : ∃ v1, v1 = v0.setCell ⟨w.heap.size + 2, 1, none⟩ (.string ⟨x.tenant.toArray⟩) := ⟨_, rfl⟩
      have HO1 : Hid (v1.heap[w.heap.size + 2]? = some (.cells ({ x.base with tenant := x.tenant }).cells.toArray 30 (0, 0))) := by rw [hv1]; exact Cat.heap_setCell_same HO0.out 1 _
      have ch1 : Chg (fun k => k = w.heap.size + 2) v0 v1 := by rw [hv1]; exact (Chg.refl (fun k => k = w.heap.size + 2) v0).setCell (p := ⟨w.heap.size + 2, 1, none⟩) (fun _ => rfl) _
      have st1 : (Instr.storeAt 9 (.pointer (some ⟨w.heap.size + 2, 1, none⟩)) (.string ⟨x.tenant.toArray⟩)).run Try.prog v0 = .ok () v1 := by rw [hv1]; exact store_strc v0 ⟨w.heap.size + 2, 1, none⟩ _ ⟨x.tenant.toArray⟩ (by rw [cell_of_heap HO0.out]; rfl) (frozen_of_heap HO0.out _)
      clear hv1
      refine wpT.call 5 rfl (by kernel_rfl) rfl (fun K hK => ?_)
      refine wp_skipped _ (exec_store _ _ _ _ _ _ rfl rfl rfl st1) ?_
      refine hK _ _ ch1 ?_
      clear hK st1
      try (simp only [Act.put, List.setIfInBounds_toArray, List.set_cons_zero, List.set_cons_succ])
      have cv1 := cv0.new ch1 (fun k h => by omega)
      refine wpT.take 6 rfl (by kernel_rfl) (fun _ _ _ h => h) rfl (fun w' hw' => by go_simp <;> with_reducible rfl) ?_
      simp only [Act.put, List.setIfInBounds_toArray, List.set_cons_zero, List.set_cons_succ]
      obtain ⟨v2, hv2⟩ : ∃ v2, v2 = v1.setCells (w.heap.size + 2) 10 [.string ⟨x.hname.toArray⟩, .string ⟨x.hser.toArray⟩, .int .i64 x.hlo, .int .i64 x.hhi] := ⟨_, rfl⟩
      have HO2 : Hid (v2.heap[w.heap.size + 2]? = some (.cells ({ x.base with tenant := x.tenant, hname := x.hname, hser := x.hser, hlo := x.hlo, hhi := x.hhi }).cells.toArray 30 (0, 0))) := by rw [hv2]; exact heap_setCells_same [.string ⟨x.hname.toArray⟩, .string ⟨x.hser.toArray⟩, .int .i64 x.hlo, .int .i64 x.hhi] 10 v1 _ HO1.out
      have ch2 : Chg (fun k => k = w.heap.size + 2) v1 v2 := by rw [hv2]; exact Chg.setCells v1 (w.heap.size + 2) 10 [.string ⟨x.hname.toArray⟩, .string ⟨x.hser.toArray⟩, .int .i64 x.hlo, .int .i64 x.hhi]
      have st2 : (Instr.storeAt 28 (.pointer (some ⟨w.heap.size + 2, 10, none⟩)) (.agg #[.string ⟨x.hname.toArray⟩, .string ⟨x.hser.toArray⟩, .int .i64 x.hlo, .int .i64 x.hhi])).run Try.prog v1 = .ok () v2 := by rw [hv2]; exact store_hold v1 _ x ({ x.base with tenant := x.tenant }) _ HO1.out
      clear hv2
      refine wpT.call 7 rfl (by kernel_rfl) rfl (fun K hK => ?_)
      refine wp_skipped _ (exec_store _ _ _ _ _ _ rfl rfl rfl st2) ?_
      refine hK _ _ ch2 ?_
      clear hK st2
      try (simp only [Act.put, List.setIfInBounds_toArray, List.set_cons_zero, List.set_cons_succ])
      have cv2 := cv1.new ch2 (fun k h => by omega)
      refine wpT.done (by kernel_rfl) ?_
      go_wp2_with fail
      go_meet
      refine ⟨.slice none 0 0, ?_, ?_, ?_, fun k hk => by simp [Value.ownBlock] at hk, cv2⟩
      · have hxo : x.only (.slice none 0 0) = { x.base with tenant := x.tenant, hname := x.hname, hser := x.hser, hlo := x.hlo, hhi := x.hhi } := by unfold Cmd.only Cmd.base; simp [H.out]
        rw [hxo]
        exact HO2.out
      · exact (ch2.heap (ch1.heap HR0 (fun h => absurd h (by omega))) (fun h => absurd h (by omega)))
      · rw [show x.onlyPs ps = [] from by unfold Cmd.onlyPs; simp [H.out]]
        exact Reads.nil _ 2
    · have b0 : (x.kind == 0) = false := by rw [h]; rfl
      have b1 : (x.kind == 1) = false := by rw [h]; rfl
      have b2 : (x.kind == 2) = false := by rw [h]; rfl
      have b3 : (x.kind == 3) = false := by rw [h]; rfl
      have b4 : (x.kind == 4) = false := by rw [h]; rfl
      have b5 : (x.kind == 5) = false := by rw [h]; rfl
      have b6 : (x.kind == 6) = true := by rw [h]; rfl
      have H := Lib.hid h
      clear h
      go_wp2_with fail
      refine wpT.begin (fun k => k = w.heap.size + 2) 8 (by kernel_rfl) rfl ?_
      refine wpT.take 0 rfl (by kernel_rfl) (fun _ _ _ h => h) rfl (fun w' hw' => by go_simp <;> with_reducible rfl) ?_
      simp only [Act.put, List.setIfInBounds_toArray, List.set_cons_zero, List.set_cons_succ]
      refine wpT.take 1 rfl (by kernel_rfl) (fun _ _ _ h => h) rfl (fun w' hw' => by exact exec_load _ _ _ _ rfl rfl (load_strc w' _ _ (((Chg.refl (fun k => k = w.heap.size + 2) w4).drew.trans hw').cell (cell_cmd HX4.out 1 _ rfl) (fun h => by first | omega | (dsimp only at h; omega))))) ?_
      simp only [Act.put, List.setIfInBounds_toArray, List.set_cons_zero, List.set_cons_succ]
      refine wpT.take 2 rfl (by kernel_rfl) (fun _ _ _ h => h) rfl (fun w' hw' => by go_simp <;> with_reducible rfl) ?_
      simp only [Act.put, List.setIfInBounds_toArray, List.set_cons_zero, List.set_cons_succ]
      refine wpT.take 3 rfl (by kernel_rfl) (fun _ _ _ h => h) rfl (fun w' hw' => by exact exec_load _ _ _ _ rfl rfl (load_strc w' _ _ (((Chg.refl (fun k => k = w.heap.size + 2) w4).drew.trans hw').cell (cell_cmd HX4.out 3 _ rfl) (fun h => by first | omega | (dsimp only at h; omega))))) ?_
      simp only [Act.put, List.setIfInBounds_toArray, List.set_cons_zero, List.set_cons_succ]
      obtain ⟨v0, hv0⟩ : ∃ v0, v0 = w4.drew := ⟨_, rfl⟩
      have HO0 := Lib.hid ((Chg.refl (fun _ => False) w4).drew.heap HO4.out (fun h => h))
      have cv0 : Chg (fun _ => False) w v0 := by rw [hv0]; exact c4.drew
      have HR0 : v0.heap[w.heap.size + 1]? = some (.cells Cmd.zero.cells.toArray 30 (0, 0)) := by rw [hv0]; exact (Chg.refl (fun _ => False) w4).drew.heap HR4.out (fun h => h)
      rw [← hv0] at HO0 ⊢
      refine wpT.take 4 rfl (by kernel_rfl) (fun _ _ _ h => h) rfl (fun w' hw' => by go_simp <;> with_reducible rfl) ?_
      simp only [Act.put, List.setIfInBounds_toArray, List.set_cons_zero, List.set_cons_succ]
      obtain ⟨v1, hv1⟩ : ∃ v1, v1 = v0.setCell ⟨w.heap.size + 2, 1, none⟩ (.string ⟨x.tenant.toArray⟩) := ⟨_, rfl⟩
      have HO1 : Hid (v1.heap[w.heap.size + 2]? = some (.cells ({ x.base with tenant := x.tenant }).cells.toArray 30 (0, 0))) := by rw [hv1]; exact Cat.heap_setCell_same HO0.out 1 _
      have ch1 : Chg (fun k => k = w.heap.size + 2) v0 v1 := by rw [hv1]; exact (Chg.refl (fun k => k = w.heap.size + 2) v0).setCell (p := ⟨w.heap.size + 2, 1, none⟩) (fun _ => rfl) _
      have st1 : (Instr.storeAt 9 (.pointer (some ⟨w.heap.size + 2, 1, none⟩)) (.string ⟨x.tenant.toArray⟩)).run Try.prog v0 = .ok () v1 := by rw [hv1]; exact store_strc v0 ⟨w.heap.size + 2, 1, none⟩ _ ⟨x.tenant.toArray⟩ (by rw [cell_of_heap HO0.out]; rfl) (frozen_of_heap HO0.out _)
      clear hv1
      refine wpT.call 5 rfl (by kernel_rfl) rfl (fun K hK => ?_)
      refine wp_skipped _ (exec_store _ _ _ _ _ _ rfl rfl rfl st1) ?_
      refine hK _ _ ch1 ?_
      clear hK st1
      try (simp only [Act.put, List.setIfInBounds_toArray, List.set_cons_zero, List.set_cons_succ])
      have cv1 := cv0.new ch1 (fun k h => by omega)
      refine wpT.take 6 rfl (by kernel_rfl) (fun _ _ _ h => h) rfl (fun w' hw' => by go_simp <;> with_reducible rfl) ?_
      simp only [Act.put, List.setIfInBounds_toArray, List.set_cons_zero, List.set_cons_succ]
      obtain ⟨v2, hv2⟩ : ∃ v2, v2 = v1.setCell ⟨w.heap.size + 2, 3, none⟩ (.string ⟨x.name.toArray⟩) := ⟨_, rfl⟩
      have HO2 : Hid (v2.heap[w.heap.size + 2]? = some (.cells ({ x.base with tenant := x.tenant, name := x.name }).cells.toArray 30 (0, 0))) := by rw [hv2]; exact Cat.heap_setCell_same HO1.out 3 _
      have ch2 : Chg (fun k => k = w.heap.size + 2) v1 v2 := by rw [hv2]; exact (Chg.refl (fun k => k = w.heap.size + 2) v1).setCell (p := ⟨w.heap.size + 2, 3, none⟩) (fun _ => rfl) _
      have st2 : (Instr.storeAt 9 (.pointer (some ⟨w.heap.size + 2, 3, none⟩)) (.string ⟨x.name.toArray⟩)).run Try.prog v1 = .ok () v2 := by rw [hv2]; exact store_strc v1 ⟨w.heap.size + 2, 3, none⟩ _ ⟨x.name.toArray⟩ (by rw [cell_of_heap HO1.out]; rfl) (frozen_of_heap HO1.out _)
      clear hv2
      refine wpT.call 7 rfl (by kernel_rfl) rfl (fun K hK => ?_)
      refine wp_skipped _ (exec_store _ _ _ _ _ _ rfl rfl rfl st2) ?_
      refine hK _ _ ch2 ?_
      clear hK st2
      try (simp only [Act.put, List.setIfInBounds_toArray, List.set_cons_zero, List.set_cons_succ])
      have cv2 := cv1.new ch2 (fun k h => by omega)
      refine wpT.done (by kernel_rfl) ?_
      go_wp2_with fail
      go_meet
      refine ⟨.slice none 0 0, ?_, ?_, ?_, fun k hk => by simp [Value.ownBlock] at hk, cv2⟩
      · have hxo : x.only (.slice none 0 0) = { x.base with tenant := x.tenant, name := x.name } := by unfold Cmd.only Cmd.base; simp [H.out]
        rw [hxo]
        exact HO2.out
      · exact (ch2.heap (ch1.heap HR0 (fun h => absurd h (by omega))) (fun h => absurd h (by omega)))
      · rw [show x.onlyPs ps = [] from by unfold Cmd.onlyPs; simp [H.out]]
        exact Reads.nil _ 2
    · have b0 : (x.kind == 0) = false := by rw [h]; rfl
      have b1 : (x.kind == 1) = false := by rw [h]; rfl
      have b2 : (x.kind == 2) = false := by rw [h]; rfl
      have b3 : (x.kind == 3) = false := by rw [h]; rfl
      have b4 : (x.kind == 4) = false := by rw [h]; rfl
      have b5 : (x.kind == 5) = false := by rw [h]; rfl
      have b6 : (x.kind == 6) = false := by rw [h]; rfl
      have b7 : (x.kind == 7) = true := by rw [h]; rfl
      have H := Lib.hid h
      clear h
      go_wp2_with fail
      refine wpT.begin (fun k => k = w.heap.size + 2) 12 (by kernel_rfl) rfl ?_
      refine wpT.take 0 rfl (by kernel_rfl) (fun _ _ _ h => h) rfl (fun w' hw' => by go_simp <;> with_reducible rfl) ?_
      simp only [Act.put, List.setIfInBounds_toArray, List.set_cons_zero, List.set_cons_succ]
      refine wpT.take 1 rfl (by kernel_rfl) (fun _ _ _ h => h) rfl (fun w' hw' => by exact exec_load _ _ _ _ rfl rfl (load_strc w' _ _ (((Chg.refl (fun k => k = w.heap.size + 2) w4).drew.trans hw').cell (cell_cmd HX4.out 1 _ rfl) (fun h => by first | omega | (dsimp only at h; omega))))) ?_
      simp only [Act.put, List.setIfInBounds_toArray, List.set_cons_zero, List.set_cons_succ]
      refine wpT.take 2 rfl (by kernel_rfl) (fun _ _ _ h => h) rfl (fun w' hw' => by go_simp <;> with_reducible rfl) ?_
      simp only [Act.put, List.setIfInBounds_toArray, List.set_cons_zero, List.set_cons_succ]
      refine wpT.take 3 rfl (by kernel_rfl) (fun _ _ _ h => h) rfl (fun w' hw' => by exact exec_load _ _ _ _ rfl rfl (load_strc w' _ _ (((Chg.refl (fun k => k = w.heap.size + 2) w4).drew.trans hw').cell (cell_cmd HX4.out 2 _ rfl) (fun h => by first | omega | (dsimp only at h; omega))))) ?_
      simp only [Act.put, List.setIfInBounds_toArray, List.set_cons_zero, List.set_cons_succ]
      refine wpT.take 4 rfl (by kernel_rfl) (fun _ _ _ h => h) rfl (fun w' hw' => by go_simp <;> with_reducible rfl) ?_
      simp only [Act.put, List.setIfInBounds_toArray, List.set_cons_zero, List.set_cons_succ]
      refine wpT.take 5 rfl (by kernel_rfl) (fun _ _ _ h => h) rfl (fun w' hw' => by exact exec_load _ _ _ _ rfl rfl (load_range w' _ x _ (((Chg.refl (fun k => k = w.heap.size + 2) w4).drew.trans hw').heap HX4.out (fun h => by first | omega | (dsimp only at h; omega))))) ?_
      simp only [Act.put, List.setIfInBounds_toArray, List.set_cons_zero, List.set_cons_succ]
      obtain ⟨v0, hv0⟩ : ∃ v0, v0 = w4.drew := ⟨_, rfl⟩
      have HO0 := Lib.hid ((Chg.refl (fun _ => False) w4).drew.heap HO4.out (fun h => h))
      have cv0 : Chg (fun _ => False) w v0 := by rw [hv0]; exact c4.drew
      have HR0 : v0.heap[w.heap.size + 1]? = some (.cells Cmd.zero.cells.toArray 30 (0, 0)) := by rw [hv0]; exact (Chg.refl (fun _ => False) w4).drew.heap HR4.out (fun h => h)
      rw [← hv0] at HO0 ⊢
      refine wpT.take 6 rfl (by kernel_rfl) (fun _ _ _ h => h) rfl (fun w' hw' => by go_simp <;> with_reducible rfl) ?_
      simp only [Act.put, List.setIfInBounds_toArray, List.set_cons_zero, List.set_cons_succ]
      obtain ⟨v1, hv1⟩ : ∃ v1, v1 = v0.setCell ⟨w.heap.size + 2, 1, none⟩ (.string ⟨x.tenant.toArray⟩) := ⟨_, rfl⟩
      have HO1 : Hid (v1.heap[w.heap.size + 2]? = some (.cells ({ x.base with tenant := x.tenant }).cells.toArray 30 (0, 0))) := by rw [hv1]; exact Cat.heap_setCell_same HO0.out 1 _
      have ch1 : Chg (fun k => k = w.heap.size + 2) v0 v1 := by rw [hv1]; exact (Chg.refl (fun k => k = w.heap.size + 2) v0).setCell (p := ⟨w.heap.size + 2, 1, none⟩) (fun _ => rfl) _
      have st1 : (Instr.storeAt 9 (.pointer (some ⟨w.heap.size + 2, 1, none⟩)) (.string ⟨x.tenant.toArray⟩)).run Try.prog v0 = .ok () v1 := by rw [hv1]; exact store_strc v0 ⟨w.heap.size + 2, 1, none⟩ _ ⟨x.tenant.toArray⟩ (by rw [cell_of_heap HO0.out]; rfl) (frozen_of_heap HO0.out _)
      clear hv1
      refine wpT.call 7 rfl (by kernel_rfl) rfl (fun K hK => ?_)
      refine wp_skipped _ (exec_store _ _ _ _ _ _ rfl rfl rfl st1) ?_
      refine hK _ _ ch1 ?_
      clear hK st1
      try (simp only [Act.put, List.setIfInBounds_toArray, List.set_cons_zero, List.set_cons_succ])
      have cv1 := cv0.new ch1 (fun k h => by omega)
      refine wpT.take 8 rfl (by kernel_rfl) (fun _ _ _ h => h) rfl (fun w' hw' => by go_simp <;> with_reducible rfl) ?_
      simp only [Act.put, List.setIfInBounds_toArray, List.set_cons_zero, List.set_cons_succ]
      obtain ⟨v2, hv2⟩ : ∃ v2, v2 = v1.setCell ⟨w.heap.size + 2, 2, none⟩ (.string ⟨x.series.toArray⟩) := ⟨_, rfl⟩
      have HO2 : Hid (v2.heap[w.heap.size + 2]? = some (.cells ({ x.base with tenant := x.tenant, series := x.series }).cells.toArray 30 (0, 0))) := by rw [hv2]; exact Cat.heap_setCell_same HO1.out 2 _
      have ch2 : Chg (fun k => k = w.heap.size + 2) v1 v2 := by rw [hv2]; exact (Chg.refl (fun k => k = w.heap.size + 2) v1).setCell (p := ⟨w.heap.size + 2, 2, none⟩) (fun _ => rfl) _
      have st2 : (Instr.storeAt 9 (.pointer (some ⟨w.heap.size + 2, 2, none⟩)) (.string ⟨x.series.toArray⟩)).run Try.prog v1 = .ok () v2 := by rw [hv2]; exact store_strc v1 ⟨w.heap.size + 2, 2, none⟩ _ ⟨x.series.toArray⟩ (by rw [cell_of_heap HO1.out]; rfl) (frozen_of_heap HO1.out _)
      clear hv2
      refine wpT.call 9 rfl (by kernel_rfl) rfl (fun K hK => ?_)
      refine wp_skipped _ (exec_store _ _ _ _ _ _ rfl rfl rfl st2) ?_
      refine hK _ _ ch2 ?_
      clear hK st2
      try (simp only [Act.put, List.setIfInBounds_toArray, List.set_cons_zero, List.set_cons_succ])
      have cv2 := cv1.new ch2 (fun k h => by omega)
      refine wpT.take 10 rfl (by kernel_rfl) (fun _ _ _ h => h) rfl (fun w' hw' => by go_simp <;> with_reducible rfl) ?_
      simp only [Act.put, List.setIfInBounds_toArray, List.set_cons_zero, List.set_cons_succ]
      obtain ⟨v3, hv3⟩ : ∃ v3, v3 = v2.setCells (w.heap.size + 2) 5 [.int .i64 x.rlo, .int .i64 x.rhi] := ⟨_, rfl⟩
      have HO3 : Hid (v3.heap[w.heap.size + 2]? = some (.cells ({ x.base with tenant := x.tenant, series := x.series, rlo := x.rlo, rhi := x.rhi }).cells.toArray 30 (0, 0))) := by rw [hv3]; exact heap_setCells_same [.int .i64 x.rlo, .int .i64 x.rhi] 5 v2 _ HO2.out
      have ch3 : Chg (fun k => k = w.heap.size + 2) v2 v3 := by rw [hv3]; exact Chg.setCells v2 (w.heap.size + 2) 5 [.int .i64 x.rlo, .int .i64 x.rhi]
      have st3 : (Instr.storeAt 24 (.pointer (some ⟨w.heap.size + 2, 5, none⟩)) (.agg #[.int .i64 x.rlo, .int .i64 x.rhi])).run Try.prog v2 = .ok () v3 := by rw [hv3]; exact store_range v2 _ x ({ x.base with tenant := x.tenant, series := x.series }) _ HO2.out
      clear hv3
      refine wpT.call 11 rfl (by kernel_rfl) rfl (fun K hK => ?_)
      refine wp_skipped _ (exec_store _ _ _ _ _ _ rfl rfl rfl st3) ?_
      refine hK _ _ ch3 ?_
      clear hK st3
      try (simp only [Act.put, List.setIfInBounds_toArray, List.set_cons_zero, List.set_cons_succ])
      have cv3 := cv2.new ch3 (fun k h => by omega)
      refine wpT.done (by kernel_rfl) ?_
      go_wp2_with fail
      go_meet
      refine ⟨.slice none 0 0, ?_, ?_, ?_, fun k hk => by simp [Value.ownBlock] at hk, cv3⟩
      · have hxo : x.only (.slice none 0 0) = { x.base with tenant := x.tenant, series := x.series, rlo := x.rlo, rhi := x.rhi } := by unfold Cmd.only Cmd.base; simp [H.out]
        rw [hxo]
        exact HO3.out
      · exact (ch3.heap (ch2.heap (ch1.heap HR0 (fun h => absurd h (by omega))) (fun h => absurd h (by omega))) (fun h => absurd h (by omega)))
      · rw [show x.onlyPs ps = [] from by unfold Cmd.onlyPs; simp [H.out]]
        exact Reads.nil _ 2
    · have b0 : (x.kind == 0) = false := by rw [h]; rfl
      have b1 : (x.kind == 1) = false := by rw [h]; rfl
      have b2 : (x.kind == 2) = false := by rw [h]; rfl
      have b3 : (x.kind == 3) = false := by rw [h]; rfl
      have b4 : (x.kind == 4) = false := by rw [h]; rfl
      have b5 : (x.kind == 5) = false := by rw [h]; rfl
      have b6 : (x.kind == 6) = false := by rw [h]; rfl
      have b7 : (x.kind == 7) = false := by rw [h]; rfl
      have b8 : (x.kind == 8) = true := by rw [h]; rfl
      have H := Lib.hid h
      clear h
      have p1 : w4.cell? ⟨w.heap.size, 16, none⟩ = some (.int .i64 x.at_) := cell_cmd HX4.out 16 _ rfl
      have p2 : w4.cell? ⟨w.heap.size + 2, 16, none⟩ = some (.int .i64 0) := cell_cmd HO4.out 16 _ rfl
      have p3 : w4.frozen? ⟨w.heap.size + 2, 16, none⟩ = false := frozen_of_heap HO4.out _
      go_wp2_with fail
      go_meet
      have ch : Chg (fun k => k = w.heap.size + 2) w4 (w4.setCell ⟨w.heap.size + 2, 16, none⟩ (.int .i64 x.at_)) := (Chg.refl (fun k => k = w.heap.size + 2) w4).setCell (p := ⟨w.heap.size + 2, 16, none⟩) (fun _ => rfl) _
      refine ⟨.slice none 0 0, ?_, ch.heap HR4.out (fun h => absurd h (by omega)), ?_, fun k hk => by simp [Value.ownBlock] at hk, c4.new ch (fun k h => by omega)⟩
      · have hxo : x.only (.slice none 0 0) = { x.base with at_ := x.at_ } := by unfold Cmd.only Cmd.base; simp [H.out]
        rw [hxo]
        exact Cat.heap_setCell_same HO4.out 16 _
      · rw [show x.onlyPs ps = [] from by unfold Cmd.onlyPs; simp [H.out]]
        exact Reads.nil _ 2
    · have b0 : (x.kind == 0) = false := by rw [h]; rfl
      have b1 : (x.kind == 1) = false := by rw [h]; rfl
      have b2 : (x.kind == 2) = false := by rw [h]; rfl
      have b3 : (x.kind == 3) = false := by rw [h]; rfl
      have b4 : (x.kind == 4) = false := by rw [h]; rfl
      have b5 : (x.kind == 5) = false := by rw [h]; rfl
      have b6 : (x.kind == 6) = false := by rw [h]; rfl
      have b7 : (x.kind == 7) = false := by rw [h]; rfl
      have b8 : (x.kind == 8) = false := by rw [h]; rfl
      have b9 : (x.kind == 9) = true := by rw [h]; rfl
      have H := Lib.hid h
      clear h
      have p1 : w4.cell? ⟨w.heap.size, 14, none⟩ = some (.int .i64 x.bytes) := cell_cmd HX4.out 14 _ rfl
      have p2 : w4.cell? ⟨w.heap.size + 2, 14, none⟩ = some (.int .i64 0) := cell_cmd HO4.out 14 _ rfl
      have p3 : w4.frozen? ⟨w.heap.size + 2, 14, none⟩ = false := frozen_of_heap HO4.out _
      go_wp2_with fail
      go_meet
      have ch : Chg (fun k => k = w.heap.size + 2) w4 (w4.setCell ⟨w.heap.size + 2, 14, none⟩ (.int .i64 x.bytes)) := (Chg.refl (fun k => k = w.heap.size + 2) w4).setCell (p := ⟨w.heap.size + 2, 14, none⟩) (fun _ => rfl) _
      refine ⟨.slice none 0 0, ?_, ch.heap HR4.out (fun h => absurd h (by omega)), ?_, fun k hk => by simp [Value.ownBlock] at hk, c4.new ch (fun k h => by omega)⟩
      · have hxo : x.only (.slice none 0 0) = { x.base with bytes := x.bytes } := by unfold Cmd.only Cmd.base; simp [H.out]
        rw [hxo]
        exact Cat.heap_setCell_same HO4.out 14 _
      · rw [show x.onlyPs ps = [] from by unfold Cmd.onlyPs; simp [H.out]]
        exact Reads.nil _ 2
    · have b0 : (x.kind == 0) = false := by simp [g0]
      have b1 : (x.kind == 1) = false := by simp [g1]
      have b2 : (x.kind == 2) = false := by simp [g2]
      have b3 : (x.kind == 3) = false := by simp [g3]
      have b4 : (x.kind == 4) = false := by simp [g4]
      have b5 : (x.kind == 5) = false := by simp [g5]
      have b6 : (x.kind == 6) = false := by simp [g6]
      have b7 : (x.kind == 7) = false := by simp [g7]
      have b8 : (x.kind == 8) = false := by simp [g8]
      have b9 : (x.kind == 9) = false := by simp [g9]
      have G := Lib.hid (And.intro g0 (And.intro g1 (And.intro g2 (And.intro g3 (And.intro g4 (And.intro g5 (And.intro g6 (And.intro g7 (And.intro g8 g9)))))))))
      clear g0 g1 g2 g3 g4 g5 g6 g7 g8 g9
      go_wp2_with fail
      go_meet
      obtain ⟨g0, g1, g2, g3, g4, g5, g6, g7, g8, g9⟩ := G.out
      refine ⟨.slice none 0 0, ?_, HR4.out, ?_, fun k hk => by simp [Value.ownBlock] at hk, HC4.out⟩
      · have hxo : x.only (.slice none 0 0) = x.base := by unfold Cmd.only Cmd.base; simp [*]
        rw [hxo]
        exact HO4.out
      · rw [show x.onlyPs ps = [] from by unfold Cmd.onlyPs; simp [*]]
        exact Reads.nil _ 2
  case rest =>
    obtain ⟨pv, hA, hB, hC, hN, hD⟩ := hcut
    obtain ⟨y, hy⟩ : ∃ y, y = x.only pv := ⟨_, rfl⟩
    have hpy : y.pv = pv := by rw [hy]; rfl
    rw [← hy] at hA
    have HY := Lib.hid hy
    have hone : y.pv.oneCell' = true := by rw [hpy]; obtain ⟨a, c, hf⟩ := hC.out.form; rw [hf]; rfl
    have HPY := Lib.hid hpy
    clear hy hpy
    have ld := load_cmd wc _ y _ hA.out
    obtain ⟨w5, hw5⟩ : ∃ w5, w5 = wc.setCells (w.heap.size + 1) 0 y.cells := ⟨_, rfl⟩
    have HST : Hid ((Instr.storeAt 30 (.pointer (some ⟨w.heap.size + 1, 0, none⟩)) (.agg #[.int .i64 y.kind, .string ⟨y.tenant.toArray⟩, .string ⟨y.series.toArray⟩, .string ⟨y.name.toArray⟩, y.pv, .int .i64 y.rlo, .int .i64 y.rhi, .int .i64 y.praw, .int .i64 y.pmid, .int .i64 y.plong, .string ⟨y.hname.toArray⟩, .string ⟨y.hser.toArray⟩, .int .i64 y.hlo, .int .i64 y.hhi, .int .i64 y.bytes, .int .i64 y.count, .int .i64 y.at_])).run Try.prog wc = .ok () w5) := by show _ = _; rw [hw5]; exact store_cmd wc _ y Cmd.zero _ hB.out hone
    have H5 : Hid (w5.heap[w.heap.size + 1]? = some (.cells y.cells.toArray 30 (0, 0))) := by rw [hw5]; exact heap_cmd wc _ y Cmd.zero _ hB.out
    have c5 : Chg (fun k => k = w.heap.size + 1) wc w5 := by rw [hw5]; exact Chg.setCells _ _ _ _
    have HC5 := Lib.hid c5
    clear hw5 c5 hone c4 z1 z2
    go_wp2_with (first | refine wpList_loadG 30 _ rfl rfl _ _ rfl ld ?_ | refine wpList_store rfl 30 _ _ rfl _ _ _ rfl rfl HST.out ?_)
    simp only [Act.put, List.setIfInBounds_toArray, List.set_cons_zero, List.set_cons_succ]
    refine bodyPost_ret (v := .agg y.cells.toArray) ?_ rfl ?_
    · exact results_cell_row (fn := Try.f18) (p := 2) (ty := 30) rfl _ _ (w.heap.size + 1) _ _ (0, 0) _ rfl H5.out Try.underlying30 rfl (by kernel_rfl)
    refine ⟨pv, by rw [HY.out], hC.out.kept HC5.out (fun k hk e => hN.out k hk e), hD.out.new HC5.out (fun k h => by omega)⟩
end Go.Proofs.Ytjhkhdockiocgaa
