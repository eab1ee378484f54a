/- What a row's proof opens commands by. -/
import Derived.Test.YtjhkhdockiocgaaRow
import Derived.Test.YtjhkhdockiocgaaRowSec
import Derived.Test.YtjhkhdockiocgaaRowHold
import Derived.Test.YtjhkhdockiocgaaCmdOk
namespace Go.Proofs.Ytjhkhdockiocgaa
open Go.ChangeShapes Go.WideShapes Go.ChangeAt Go.RowKit Go.Cat

theorem trod_field {H : Type} {enc : TypeId × Value → H} {P : Program} {w : World} {base : Nat} {spare : Nat → Bool} {held : Bool} {fuel : Nat} {t : TypeId} {fs : Array Field} {cs : List Value} {x : DataW H × List MemPlace} (ht : P.underlying t = some (.struct fs)) (h : DataW.trod enc P w base spare held fuel t cs = some x) :
    ∃ n, ∀ (i : Nat) (f : Field), fs[i]? = some f → ∃ y, DataW.trod enc P w base spare held n f.type ((cs.drop f.offset).take (P.cellsOf f.type)) = some y := by
  obtain ⟨xs, n, _, _, _, hlen, hf⟩ := DataW.trod_struct ht h
  refine ⟨n, fun i f hi => ?_⟩
  have hl := (Array.getElem?_eq_some_iff.1 hi).1
  exact ⟨xs[i]'(by omega), by rw [hf i f hi]; exact List.getElem?_eq_getElem (by omega)⟩

set_option maxRecDepth 100000 in
theorem open_pnts {H : Type} {enc : TypeId × Value → H} {w : World} {base : Nat} {held : Bool} {v : Value} {d : DataW H} {ps : List MemPlace}
    (hok : Value.okWide Try.prog w .any base 22 v) (h : DataW.Trod enc Try.prog w 0 (fun _ => true) held 22 v d ps) :
    ∃ L : List Pnt, Reads w 2 v L.length (L.flatMap Pnt.cells) ∧ ∀ p ∈ L, I64 p.at_ ∧ I64 p.val := by
  obtain ⟨a, len, cap, rfl⟩ := WideShapes.okWide_slice Try.underlying22 hok
  obtain ⟨fuel, hf⟩ := h
  have hc2 : Try.prog.cellsOf 116 = 2 := by kernel_rfl
  have hi64 : Try.prog.cellsOf 2 = 1 := by kernel_rfl
  rcases Deep.open_slice Try.underlying22 hf with ⟨hcs, _⟩ | ⟨x, l, c, m, n, D, Pl, hcs, _, hl, hm, hmm, _, hrow⟩
  · simp [Value.cells] at hcs
    obtain ⟨rfl, rfl, rfl⟩ := hcs
    exact ⟨[], Reads.nil w 2, fun p hp => by cases hp⟩
  · simp [Value.cells] at hcs
    obtain ⟨rfl, rfl, rfl⟩ := hcs
    have hml : len ≤ m := by rw [hmm]; split <;> omega
    obtain ⟨b, o, rfl, hlt⟩ := slice_addrh Try.underlying22 hok
    have hex : ∀ i, ∃ it : Pnt, (I64 it.at_ ∧ I64 it.val) ∧ (i < len → w.cells? 0 ((⟨b, o, none⟩ : Addr).add (i * 2)) 2 = some it.cells) := by
      intro i
      by_cases hi : i < len
      · obtain ⟨cs, h1, h2⟩ := hrow i (by omega)
        rw [hc2] at h1
        obtain ⟨z0, z1, m', _, hl2, l0, l1⟩ := trod_struct2 Try.underlying116 h2
        rw [hc2] at hl2
        match cs, hl2 with
        | [c0, c1], _ =>
          simp only [hi64, List.drop_zero, List.take_succ_cons, List.take_zero, List.drop_succ_cons] at l0 l1
          obtain ⟨n2, e2, _, b2⟩ := DataW.trod_int Try.underlying2 l0
          obtain ⟨n3, e3, _, b3⟩ := DataW.trod_int Try.underlying2 l1
          simp only [List.cons.injEq, and_true] at e2 e3
          subst e2 e3
          exact ⟨⟨n2, n3⟩, ⟨bnd_i64 b2, bnd_i64 b3⟩, fun _ => h1⟩
      · exact ⟨⟨0, 0⟩, ⟨⟨by decide, by decide⟩, ⟨by decide, by decide⟩⟩, fun h => absurd h hi⟩
    obtain ⟨f, hfx⟩ := Classical.skolem.1 hex
    refine ⟨(List.range len).map f, ⟨rows_len _ (fun _ _ => rfl), .inr ⟨b, o, cap, by simp, by simp; omega, hm, hlt, fun j u hj => ?_⟩⟩, fun p hp => ?_⟩
    · have hjl := (List.getElem?_eq_some_iff.1 hj).1
      rw [rows_len (s := 2) _ (fun _ _ => rfl)] at hjl
      simp only [List.length_map, List.length_range] at hjl
      have hi : j / 2 < len := by omega
      have hx : ((List.range len).map f)[j / 2]? = some (f (j / 2)) := by simp [hi]
      have h1 := rows_at ((List.range len).map f) (s := 2) (f := Pnt.cells) (fun _ _ => rfl) (j / 2) (j % 2) (f (j / 2)) hx (by omega)
      rw [show j / 2 * 2 + j % 2 = j by omega, hj] at h1
      have h2 := (World.cells?_some ((hfx (j / 2)).2 hi)).2.2 (j % 2) (by omega)
      rw [addr_add, addr_add, show o + j / 2 * 2 + j % 2 = o + j by omega] at h2
      rw [h2, ← h1]
    · obtain ⟨i, _, rfl⟩ := List.mem_map.1 hp
      exact (hfx i).1

theorem array17 {α : Type} {cs : Array α} (h : cs.size = 17) : ∃ c0 c1 c2 c3 c4 c5 c6 c7 c8 c9 c10 c11 c12 c13 c14 c15 c16, cs = #[c0, c1, c2, c3, c4, c5, c6, c7, c8, c9, c10, c11, c12, c13, c14, c15, c16] := by
  obtain ⟨l⟩ := cs
  match l, h with
  | [c0, c1, c2, c3, c4, c5, c6, c7, c8, c9, c10, c11, c12, c13, c14, c15, c16], _ => exact ⟨c0, c1, c2, c3, c4, c5, c6, c7, c8, c9, c10, c11, c12, c13, c14, c15, c16, rfl⟩

set_option maxRecDepth 100000 in
theorem open_cmd {H : Type} {enc : TypeId × Value → H} {w : World} {base : Nat} {held : Bool} {v : Value} {d : DataW H} {pl : List MemPlace}
    (hok : Value.okWide Try.prog w .any base 30 v) (h : DataW.Trod enc Try.prog w 0 (fun _ => true) held 30 v d pl) :
    ∃ (x : Cmd) (ps : List Pnt), v = .agg #[.int .i64 x.kind, .string ⟨x.tenant.toArray⟩, .string ⟨x.series.toArray⟩, .string ⟨x.name.toArray⟩, x.pv, .int .i64 x.rlo, .int .i64 x.rhi, .int .i64 x.praw, .int .i64 x.pmid, .int .i64 x.plong, .string ⟨x.hname.toArray⟩, .string ⟨x.hser.toArray⟩, .int .i64 x.hlo, .int .i64 x.hhi, .int .i64 x.bytes, .int .i64 x.count, .int .i64 x.at_] ∧ Reads w 2 x.pv ps.length (ps.flatMap Pnt.cells) ∧ x.Ok ps := by
  obtain ⟨cs, rfl, hsz, hrow⟩ := okWide_row Try.underlying30 hok
  have hz : Try.prog.cellsOf 30 = 17 := by kernel_rfl
  have hzh : Try.prog.cellsOf 28 = 4 := by kernel_rfl
  have hzr : Try.prog.cellsOf 24 = 2 := by kernel_rfl
  have hzp : Try.prog.cellsOf 26 = 3 := by kernel_rfl
  have hzi : Try.prog.cellsOf 2 = 1 := by kernel_rfl
  have hzk : Try.prog.cellsOf 3 = 1 := by kernel_rfl
  have hzs : Try.prog.cellsOf 9 = 1 := by kernel_rfl
  have hzl : Try.prog.cellsOf 22 = 1 := by kernel_rfl
  rw [hz] at hsz
  obtain ⟨c0, c1, c2, c3, c4, c5, c6, c7, c8, c9, c10, c11, c12, c13, c14, c15, c16, rfl⟩ := array17 hsz
  obtain ⟨fuel, hf⟩ := h
  obtain ⟨n, hn⟩ := trod_field Try.underlying30 hf
  obtain ⟨y0, f0⟩ := hn 0 _ rfl
  obtain ⟨y1, f1⟩ := hn 1 _ rfl
  obtain ⟨y2, f2⟩ := hn 2 _ rfl
  obtain ⟨y3, f3⟩ := hn 3 _ rfl
  obtain ⟨y4, f4⟩ := hn 4 _ rfl
  obtain ⟨y5, f5⟩ := hn 5 _ rfl
  obtain ⟨y6, f6⟩ := hn 6 _ rfl
  obtain ⟨y7, f7⟩ := hn 7 _ rfl
  obtain ⟨y8, f8⟩ := hn 8 _ rfl
  obtain ⟨y9, f9⟩ := hn 9 _ rfl
  obtain ⟨y10, f10⟩ := hn 10 _ rfl
  clear hn
  simp only [Value.cells, List.getElem_toArray, List.getElem_cons_zero, List.getElem_cons_succ, hzh, hzr, hzp, hzi, hzk, hzs, hzl, List.drop_zero, List.take_succ_cons, List.take_zero, List.drop_succ_cons] at f0 f1 f2 f3 f4 f5 f6 f7 f8 f9 f10
  obtain ⟨nr, hr⟩ := trod_field Try.underlying24 f5
  obtain ⟨np, hp⟩ := trod_field Try.underlying26 f6
  obtain ⟨nh, hh⟩ := trod_field Try.underlying28 f7
  obtain ⟨_, r0⟩ := hr 0 _ rfl
  obtain ⟨_, r1⟩ := hr 1 _ rfl
  obtain ⟨_, p0⟩ := hp 0 _ rfl
  obtain ⟨_, p1⟩ := hp 1 _ rfl
  obtain ⟨_, p2⟩ := hp 2 _ rfl
  obtain ⟨_, h0⟩ := hh 0 _ rfl
  obtain ⟨_, h1⟩ := hh 1 _ rfl
  obtain ⟨_, h2⟩ := hh 2 _ rfl
  clear hr hp hh
  simp only [Value.cells, List.getElem_toArray, List.getElem_cons_zero, List.getElem_cons_succ, hzh, hzr, hzp, hzi, hzk, hzs, hzl, List.drop_zero, List.take_succ_cons, List.take_zero, List.drop_succ_cons] at r0 r1 p0 p1 p2 h0 h1 h2
  obtain ⟨ng, hg⟩ := trod_field Try.underlying24 h2
  obtain ⟨_, g0⟩ := hg 0 _ rfl
  obtain ⟨_, g1⟩ := hg 1 _ rfl
  clear hg
  simp only [Value.cells, List.getElem_toArray, List.getElem_cons_zero, List.getElem_cons_succ, hzh, hzr, hzp, hzi, hzk, hzs, hzl, List.drop_zero, List.take_succ_cons, List.take_zero, List.drop_succ_cons] at g0 g1
  obtain ⟨i0, e0, _, b0⟩ := DataW.trod_int Try.underlying3 f0
  obtain ⟨i5, e5, _, b5⟩ := DataW.trod_int Try.underlying2 r0
  obtain ⟨i6, e6, _, b6⟩ := DataW.trod_int Try.underlying2 r1
  obtain ⟨i7, e7, _, b7⟩ := DataW.trod_int Try.underlying2 p0
  obtain ⟨i8, e8, _, b8⟩ := DataW.trod_int Try.underlying2 p1
  obtain ⟨i9, e9, _, b9⟩ := DataW.trod_int Try.underlying2 p2
  obtain ⟨i12, e12, _, b12⟩ := DataW.trod_int Try.underlying2 g0
  obtain ⟨i13, e13, _, b13⟩ := DataW.trod_int Try.underlying2 g1
  obtain ⟨i14, e14, _, b14⟩ := DataW.trod_int Try.underlying2 f8
  obtain ⟨i15, e15, _, b15⟩ := DataW.trod_int Try.underlying2 f9
  obtain ⟨i16, e16, _, b16⟩ := DataW.trod_int Try.underlying2 f10
  obtain ⟨i1, e1, _, _⟩ := DataW.trod_string Try.underlying9 f1
  obtain ⟨i2, e2, _, _⟩ := DataW.trod_string Try.underlying9 f2
  obtain ⟨i3, e3, _, _⟩ := DataW.trod_string Try.underlying9 f3
  obtain ⟨i10, e10, _, _⟩ := DataW.trod_string Try.underlying9 h0
  obtain ⟨i11, e11, _, _⟩ := DataW.trod_string Try.underlying9 h1
  simp only [List.cons.injEq, and_true] at e0 e1 e2 e3 e5 e6 e7 e8 e9 e10 e11 e12 e13 e14 e15 e16
  subst e0 e1 e2 e3 e5 e6 e7 e8 e9 e10 e11 e12 e13 e14 e15 e16
  have c4ok := row_cell hrow (ts := [3, 9, 9, 9, 22, 2, 2, 2, 2, 2, 9, 9, 2, 2, 2, 2, 2]) (by kernel_rfl) 4 c4 rfl 22 rfl
  have c4v := okWide_cell Try.underlying22 c4ok
  obtain ⟨sa, sl, sc, hsf⟩ := Go.Joins.slice_form Try.underlying22 f4
  simp only [List.cons.injEq, and_true] at hsf
  subst hsf
  obtain ⟨L, hL, hLb⟩ := open_pnts (d := y4.1) (ps := y4.2) c4v ⟨n, f4⟩
  exact ⟨⟨i0, i1.data.toList, i2.data.toList, i3.data.toList, _, i5, i6, i7, i8, i9, i10.data.toList, i11.data.toList, i12, i13, i14, i15, i16⟩, L, rfl, hL,
    ⟨bnd_i64 b0, bnd_i64 b5, bnd_i64 b6, bnd_i64 b7, bnd_i64 b8, bnd_i64 b9, bnd_i64 b12, bnd_i64 b13, bnd_i64 b14, bnd_i64 b15, bnd_i64 b16, hLb⟩⟩
end Go.Proofs.Ytjhkhdockiocgaa
