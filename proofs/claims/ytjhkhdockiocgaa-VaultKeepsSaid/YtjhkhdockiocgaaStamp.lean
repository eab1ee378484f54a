/- Contracts of package stamp. -/
import Derived.Test.YtjhkhdockiocgaaOctet
import Derived.Test.YtjhkhdockiocgaaR
namespace Go.Proofs.Ytjhkhdockiocgaa
open Go.RowKit Go.Cat

theorem Try.info138 : (Try.prog.info? 138).map (fun i => (i.zero, i.size, i.bytes)) = some (some (.agg #[.int .u32 0, .int .u32 0, .bool false, .slice none 0 0]), 4, 40) := by kernel_rfl

/-- A sector as it lies in memory: its data's slice. -/
structure Sec where
  turn : Nat
  place : Nat
  last : Bool
  dv : Value
  data : List UInt8
def Sec.cells (s : Sec) : List Value := [.int .u32 s.turn, .int .u32 s.place, .bool s.last, s.dv]
@[simp] theorem Sec.cells_length (s : Sec) : s.cells.length = 4 := rfl
def flat (l : List Sec) : List Value := l.flatMap Sec.cells
theorem flat_length (l : List Sec) : (flat l).length = l.length * 4 := by
  induction l with
  | nil => rfl
  | cons s l ih => simp only [flat, List.flatMap_cons, List.length_append, Sec.cells_length, List.length_cons] at *; omega

theorem flat_snoc (l : List Sec) (s : Sec) : flat (l ++ [s]) = flat l ++ s.cells := by simp [flat]
/-- Sectors in a row of the call's own; their data apart from the row. -/
structure Sectors (w0 w : World) (v : Value) (ss : List Sec) : Prop where
  own : Owns w 4 v ss.length (flat ss)
  fresh : Fresh w0 v
  data : ∀ s ∈ ss, RB w s.dv s.data ∧ Fresh w0 s.dv ∧ ∀ b, s.dv.ownBlock = some b → v.ownBlock ≠ some b
theorem Sectors.step {w0 wr w2 w3 : World} {v v' : Value} {ss : List Sec} {s : Sec} (h : Sectors w0 wr v ss) (hw : w0.heap.size ≤ wr.heap.size) (c2 : Chg (fun _ => False) wr w2) (hdv : RB w2 s.dv s.data) (f2 : Fresh wr s.dv)
    (own3 : Owns w3 4 v' (ss.length + 1) (flat ss ++ s.cells)) (c3 : Chg (fun k => v.ownBlock = some k) w2 w3) (h3 : ∀ k, v'.ownBlock = some k → v.ownBlock = some k ∨ w2.heap.size ≤ k) : Sectors w0 w3 v' (ss ++ [s]) := by
  have z2 := c2.size
  refine ⟨by rw [flat_snoc, List.length_append]; exact own3, fun k hk => ?_, fun t ht => ?_⟩
  · rcases h3 k hk with h1 | h1
    · exact h.fresh k h1
    · omega
  · rcases List.mem_append.1 ht with ht | ht
    · obtain ⟨g1, g2, g3⟩ := h.data t ht
      refine ⟨(g1.kept c2 (fun _ _ hf => hf)).kept c3 (fun k hk hv => g3 k hk hv), g2, fun b hb hb' => ?_⟩
      rcases h3 b hb' with h1 | h1
      · exact g3 b hb h1
      · have := g1.lt' b hb; omega
    · obtain rfl : t = s := by simpa using ht
      have hne : ∀ k, t.dv.ownBlock = some k → ¬ v.ownBlock = some k := fun k hk hv => by
        have := f2 k hk
        have := h.own.lt k hv
        omega
      refine ⟨hdv.kept c3 hne, fun k hk => by have := f2 k hk; omega, fun b hb hb' => ?_⟩
      rcases h3 b hb' with h1 | h1
      · exact hne b hb h1
      · have := hdv.lt' b hb; omega
/-- The sectors of a record. -/
def secOf (turn place : Nat) (l : List UInt8) (n k : Nat) (s : Sec) : Prop := s.turn = turn ∧ s.place = place + k ∧ s.last = decide ((k : Int) = n - 1) ∧ s.data = (l.drop (47 * k)).take 47
def Splits (turn place : Nat) (l : List UInt8) (n k : Nat) (ss : List Sec) : Prop := ss.length = k ∧ ∀ i s, ss[i]? = some s → secOf turn place l n i s
theorem Splits.step {turn place n k : Nat} {l : List UInt8} {ss : List Sec} {s : Sec} (h : Splits turn place l n k ss) (hs : secOf turn place l n k s) : Splits turn place l n (k + 1) (ss ++ [s]) := by
  refine ⟨by simp [h.1], fun i t ht => ?_⟩
  rcases Nat.lt_or_ge i k with hi | hi
  · rw [List.getElem?_append_left (by rw [h.1]; exact hi)] at ht
    exact h.2 i t ht
  · rw [List.getElem?_append_right (by rw [h.1]; exact hi), h.1] at ht
    have : i - k = 0 := by
      rcases Nat.eq_zero_or_pos (i - k) with h' | h'
      · exact h'
      · rw [List.getElem?_eq_none (by simp; omega)] at ht; cases ht
    rw [this] at ht
    obtain rfl : i = k := by omega
    simp at ht; subst ht; exact hs
theorem part_eq (l : List UInt8) (k lo hi : Nat) (h1 : lo = min (k * 47) l.length) (h2 : hi = min ((k + 1) * 47) l.length) : (l.drop lo).take (hi - lo) = (l.drop (47 * k)).take 47 := by
  rcases Nat.lt_or_ge (47 * k) l.length with h | h
  · obtain rfl : lo = 47 * k := by omega
    rcases Nat.lt_or_ge l.length ((k + 1) * 47) with h' | h'
    · rw [List.take_of_length_le (by simp; omega), List.take_of_length_le (by simp; omega)]
    · congr 1; omega
  · rw [List.drop_eq_nil_of_le (show l.length ≤ lo by omega), List.drop_eq_nil_of_le h]; simp

set_option maxRecDepth 100000 in
set_option maxHeartbeats 1000000 in
theorem split_any (turn place : Nat) (v : Value) (w : World) (l : List UInt8) (hv : RB w v l) (_ : turn < 4294967296) (_ : place < 4294967296) (hl : l.length ≤ 600) (h0 : turn ≠ 0) (hq : place + max ((l.length + 46) / 47) 1 - 1 < 4294967296) :
    Calls Try.prog 77 #[.int .u32 turn, .int .u32 place, v] w fun e w' => ∃ v' ss, e = .returned (.tuple #[v', .int .i64 0]) ∧ Sectors w w' v' ss ∧ Splits turn place l (max ((l.length + 46) / 47) 1) (max ((l.length + 46) / 47) 1) ss ∧ Chg (fun _ => False) w w' := by
  obtain ⟨a, c, rfl⟩ := hv.form
  have e0 : ((turn : Int) == 0) = false := by simp; omega
  obtain ⟨n, hn⟩ : ∃ n, n = max ((l.length + 46) / 47) 1 := ⟨_, rfl⟩
  have hmax : (if ((l.length : Int) + 47 - 1) / 47 < 1 then (1 : Int) else ((l.length : Int) + 47 - 1) / 47) = (n : Int) := by split <;> omega
  have hn1 : n ≤ 13 := by omega
  have hn2 : 1 ≤ n := by omega
  have hle : (place : Int) + n - 1 ≤ 4294967295 := by omega
  have hcap := hv.cap_ge
  have HN := Lib.hid hn
  have HV := Lib.hid hv
  clear hq hn hv
  go_enter Try.func77, Try.ntmps77
  go_wp2_with fail
  clear hmax
  go_loopw [9, 31] (fun out i wr => ∃ (k : Nat) (ss : List Sec), k ≤ n ∧ i = .int .i64 k ∧ Sectors w wr out ss ∧ Splits turn place l n k ss ∧ Chg (fun _ => False) w wr) (fun _ i _ => n - (intOf i).toNat)
  case atStart =>
    exact ⟨0, [], by omega, rfl, ⟨Owns.empty w _ 4, fun k hk => by simp [Value.ownBlock] at hk; omega, by simp⟩, ⟨rfl, by simp⟩, (Chg.refl _ _).alloc _⟩
  case round =>
    obtain ⟨k, ss, hk, rfl, hse, hsp, hch⟩ := hrel
    have hlen := hsp.1
    by_cases hlt : k < n
    · obtain ⟨lo, hlo⟩ : ∃ lo, lo = min (k * 47) l.length := ⟨_, rfl⟩
      obtain ⟨hi, hhi⟩ : ∃ hi, hi = min ((k + 1) * 47) l.length := ⟨_, rfl⟩
      have mlo : (if (l.length : Int) < (k : Int) * 47 then (l.length : Int) else (k : Int) * 47) = (lo : Int) := by split <;> omega
      have mhi : (if (l.length : Int) < ((k : Int) + 1) * 47 then (l.length : Int) else ((k : Int) + 1) * 47) = (hi : Int) := by split <;> omega
      have lohi : lo ≤ hi := by omega
      have hil : hi ≤ l.length := by omega
      have hlc := hcap.2
      have hsl := fun w => slice_lohi w a l.length c lo hi lohi (by omega)
      have hpv := (HV.out.kept hch (fun _ _ h => h)).piece lohi hil (show hi ≤ c by omega) (Nat.le_refl c)
      generalize hpp : (Value.slice (if c = lo then a else a.map (·.add (lo * 1))) (hi - lo) (c - lo)) = pv at hsl hpv
      have hpl : (List.take (hi - lo) (List.drop lo l)).length = hi - lo := by simp; omega
      generalize hpa : List.take (hi - lo) (List.drop lo l) = part at hpv hpl
      have HPA := Lib.hid hpa
      have hpl' : part.length ≤ 600 := by omega
      have HPL := Lib.hid hpl
      clear hpa hpl
      have HP := Lib.hid hpp
      have HLO := Lib.hid hlo
      have HHI := Lib.hid hhi
      clear hpp hlo hhi
      go_wp2_with fail
      refine (clone_any _ _ _ hpv (by omega)).mono ?_
      rintro e w2 ⟨dv, rfl, hdv, c2, f2⟩
      have hown2 := hse.own.kept c2 (fun _ _ h => h)
      rw [hlen] at hown2
      have HLEN := Lib.hid hlen
      clear hlen
      obtain ⟨da, dc, rfl⟩ := hdv.form
      go_wp2_with (at_builtin; go_loud (refine wpList_app_one rfl _ _ 132 rfl 138 (.agg #[.int .u32 0, .int .u32 0, .bool false, .slice none 0 0]) 4 40 Try.underlying132 Try.info138 rfl u9 k (flat ss) [.int .u32 turn, .int .u32 (place + k), .bool (decide ((k : Int) = n - 1)), .slice da part.length dc] _ rfl rfl hown2 rfl (by simp [Value.oneCell']) (by simp only [maxLen]; omega) (by omega) ?_; intro v' w3 own3 c3 in3 nn3))
      have hs3 := hse.step (s := ⟨turn, place + k, decide ((k : Int) = n - 1), .slice da part.length dc, part⟩) hch.size c2 hdv.rb f2 (by rw [HLEN.out]; exact own3) c3 in3
      have hp3 := hsp.step (s := ⟨turn, place + k, decide ((k : Int) = n - 1), .slice da part.length dc, part⟩) ⟨rfl, rfl, rfl, by rw [← HPA.out]; exact part_eq l k lo hi HLO.out HHI.out⟩
      have hc3 := (hch.trans c2).new c3 (fun q hq => hse.fresh q hq)
      clear mlo mhi hsl
      go_wp2_with fail
      exact ⟨⟨k + 1, _, by omega, rfl, hs3, hp3, hc3⟩, by simp only [intOf]; omega⟩
    · obtain rfl : k = n := by omega
      go_wp2_with fail
      go_ret2
      rw [← HN.out]
      exact ⟨_, ss, rfl, hse, hsp, hch⟩
theorem flat_get : ∀ (ss : List Sec) (k c : Nat) (s : Sec), ss[k]? = some s → c < 4 → (flat ss)[k * 4 + c]? = s.cells[c]?
  | [], k, c, s, h, _ => by simp at h
  | t :: ss, 0, c, s, h, hc => by
    simp at h; subst h
    simp only [flat, List.flatMap_cons, Nat.zero_mul, Nat.zero_add]
    rw [List.getElem?_append_left (by simpa using hc)]
  | t :: ss, k + 1, c, s, h, hc => by
    have := flat_get ss k c s (by simpa using h) hc
    simp only [flat, List.flatMap_cons] at *
    rw [List.getElem?_append_right (by simp; omega), ← this]
    congr 1; simp; omega
def OkAt (ss : List Sec) (i : Nat) : Prop := ∃ s s0, ss[i]? = some s ∧ ss[0]? = some s0 ∧ s.turn = s0.turn ∧ (0 < i → ∃ p, ss[i - 1]? = some p ∧ s.place = (p.place + 1) % 4294967296 ∧ s.place ≠ 0 ∧ p.last = false)
theorem ok_succ {ss : List Sec} {k : Nat} (h : ∀ j, j < k → OkAt ss j) (hk : OkAt ss k) : ∀ j, j < k + 1 → OkAt ss j := fun j hj => by
  rcases Nat.lt_or_ge j k with h1 | h1
  · exact h j h1
  · obtain rfl : j = k := by omega
    exact hk
def dataOf (ss : List Sec) : List UInt8 := ss.flatMap (·.data)
theorem dataOf_length : ∀ (ss : List Sec) (m : Nat), (∀ s ∈ ss, s.data.length ≤ m) → (dataOf ss).length ≤ m * ss.length
  | [], _, _ => by simp [dataOf]
  | s :: ss, m, h => by
    have h1 := h s (by simp)
    have h2 := dataOf_length ss m (fun t ht => h t (by simp [ht]))
    simp only [dataOf, List.flatMap_cons, List.length_append, List.length_cons, Nat.mul_add, Nat.mul_one] at *
    omega
def Joins (ss : List Sec) : Prop := ss ≠ [] ∧ (∀ i, i < ss.length → OkAt ss i) ∧ ∃ s, ss[ss.length - 1]? = some s ∧ s.last = true

set_option maxRecDepth 100000 in
set_option maxHeartbeats 1000000 in
theorem join_any (v : Value) (w : World) (ss : List Sec) (hv : Reads w 4 v ss.length (flat ss)) (hd : ∀ s ∈ ss, RB w s.dv s.data) (hb : ∀ s ∈ ss, s.turn < 4294967296 ∧ s.place < 4294967296) (hn : ss.length ≤ 100) (hl : ∀ s ∈ ss, s.data.length ≤ 1000) :
    Calls Try.prog 116 #[v] w fun e w' => ∃ v' er, e = .returned (.tuple #[v', .int .i64 er]) ∧ Chg (fun _ => False) w w' ∧ ((Joins ss ∧ er = 0 ∧ OB w' v' (dataOf ss)) ∨ (¬ Joins ss ∧ (er = 17 ∨ er = 4) ∧ v' = .slice none 0 0)) := by
  rcases hv.2 with ⟨rfl, h0⟩ | ⟨g, o, c, rfl, g1, g2, g3, g4⟩
  · go_enter Try.func116, Try.ntmps116
    go_wp2_with fail
    go_ret2
    exact ⟨_, _, rfl, Chg.refl _ _, .inr ⟨fun h => h.1 (List.eq_nil_of_length_eq_zero h0), .inr rfl, rfl⟩⟩
  by_cases h0 : ss.length = 0
  · have e0 : ((ss.length : Int) == 0) = true := by simp [h0]
    go_enter Try.func116, Try.ntmps116
    go_wp2_with fail
    go_ret2
    exact ⟨_, _, rfl, Chg.refl _ _, .inr ⟨fun h => h.1 (List.eq_nil_of_length_eq_zero h0), .inr rfl, rfl⟩⟩
  have e0 : ((ss.length : Int) == 0) = false := by simp; exact fun h => h0 (by simp [h])
  obtain ⟨n, hnn⟩ : ∃ n, n = ss.length := ⟨_, rfl⟩
  rw [← hnn] at e0 hv g1 hn h0 ⊢
  have HN := Lib.hid hnn
  clear hnn
  have H4 := Lib.hid g4
  have HD := Lib.hid hd
  have HB := Lib.hid hb
  have HL := Lib.hid hl
  have HV := Lib.hid hv
  clear g4 hd hb hl hv
  go_enter Try.func116, Try.ntmps116
  go_wp2_with fail
  go_loopw [4, 12] (fun out i wr => ∃ (k : Nat), k ≤ n ∧ i = .int .i64 k ∧ OB wr out (dataOf (ss.take k)) ∧ Fresh w out ∧ Chg (fun _ => False) w wr ∧ Hid (∀ j, j < k → OkAt ss j)) (fun _ i _ => n - (intOf i).toNat)
  case atStart =>
    exact ⟨0, by omega, rfl, by simpa [dataOf] using OB.nil w, by simp [Fresh, Value.ownBlock], Chg.refl _ _, fun j hj => by omega⟩
  case round =>
    obtain ⟨k, hk, rfl, hob, hfr, hch, hok⟩ := hrel
    by_cases hlt : k < n
    · obtain ⟨s, hs⟩ : ∃ s, ss[k]? = some s := ⟨_, List.getElem?_eq_getElem (by rw [← HN.out]; exact hlt)⟩
      obtain ⟨s0, hs0⟩ : ∃ s, ss[0]? = some s := ⟨_, List.getElem?_eq_getElem (by rw [← HN.out]; omega)⟩
      have q0 : wr.cell? ⟨g, o + k * 4, none⟩ = some (.int .u32 s.turn) := hch.cell (H4.out (k * 4) _ (flat_get ss k 0 s hs (by omega))) (fun h => h)
      have q1 : wr.cell? ⟨g, o + k * 4 + 1, none⟩ = some (.int .u32 s.place) := hch.cell (H4.out (k * 4 + 1) _ (flat_get ss k 1 s hs (by omega))) (fun h => h)
      have q2 : wr.cell? ⟨g, o + k * 4 + 2, none⟩ = some (.bool s.last) := hch.cell (H4.out (k * 4 + 2) _ (flat_get ss k 2 s hs (by omega))) (fun h => h)
      have q3 : wr.cell? ⟨g, o + k * 4 + 3, none⟩ = some s.dv := hch.cell (H4.out (k * 4 + 3) _ (flat_get ss k 3 s hs (by omega))) (fun h => h)
      have z0 : wr.cell? ⟨g, o, none⟩ = some (.int .u32 s0.turn) := hch.cell (H4.out 0 _ (flat_get ss 0 0 s0 hs0 (by omega))) (fun h => h)
      have hn0 : 0 < n := by omega
      have hgl : g < wr.heap.size := Nat.lt_of_lt_of_le g3 hch.size
      have hmem : s ∈ ss := List.mem_of_getElem? hs
      have hrb := (HD.out s hmem).kept hch (fun _ _ h => h)
      obtain ⟨da, dc, hdv⟩ := hrb.form
      rw [hdv] at q3 hrb
      have HDV := Lib.hid hdv
      have HS := Lib.hid hs
      have HS0 := Lib.hid hs0
      clear hdv hs hs0 hmem
      by_cases ht : s.turn = s0.turn
      · have et : ((s.turn : Int) == s0.turn) = true := by simp [ht]
        have en : ((s.turn : Int) != s0.turn) = false := by simp [ht]
        have HT := Lib.hid ht
        clear ht
        by_cases hk0 : k = 0
        · subst hk0
          have HLEN : (dataOf (ss.take 0)).length + s.data.length ≤ 140737488355328 := by
            have := HL.out s (List.mem_of_getElem? HS.out); simp [dataOf]; omega
          have HO : Hid (OkAt ss 0) := ⟨s, s0, HS.out, HS0.out, HT.out, fun h => absurd h (by omega)⟩
          go_wp2_with fail
          go_quiet (fail)
          go_wp2_with (at_builtin; go_loud (refine wpList_app_bytes rfl _ _ 33 rfl 5 Try.underlying33 Try.info5 u4 (.slice da s.data.length dc) (dataOf (ss.take 0)) s.data rfl rfl ((hob.alloc _).drewN _) ((hrb.alloc _).drewN _) HLEN ?_; intro v' w3 ob3 c3 in3 nn3))
          have hc3 : Chg (fun _ => False) w w3 := ((hch.alloc _).drewN _).new c3 (fun q hq => hfr q hq)
          have hf3 : Fresh w v' := fun q hq => by
            have := hch.size
            rcases in3 q hq with h | h
            · exact hfr q h
            · simp at h; omega
          have hd3 : dataOf (ss.take (0 + 1)) = dataOf (ss.take 0) ++ s.data := by rw [List.take_add_one, HS.out]; simp [dataOf]
          rw [← hd3] at ob3
          exact ⟨⟨0 + 1, by omega, rfl, ob3, hf3, hc3, ok_succ (fun j hj => absurd hj (by omega)) HO.out⟩, by simp only [intOf]; omega⟩
        · obtain ⟨j, rfl⟩ : ∃ j, k = j + 1 := ⟨k - 1, by omega⟩
          obtain ⟨p, hp⟩ : ∃ p, ss[j]? = some p := ⟨_, List.getElem?_eq_getElem (by rw [← HN.out]; omega)⟩
          have p1 : wr.cell? ⟨g, o + j * 4 + 1, none⟩ = some (.int .u32 p.place) := hch.cell (H4.out (j * 4 + 1) _ (flat_get ss j 1 p hp (by omega))) (fun h => h)
          have p2 : wr.cell? ⟨g, o + j * 4 + 2, none⟩ = some (.bool p.last) := hch.cell (H4.out (j * 4 + 2) _ (flat_get ss j 2 p hp (by omega))) (fun h => h)
          have HPJ := Lib.hid hp
          clear hp
          by_cases hpl : s.place = (p.place + 1) % 4294967296
          · have epl : ((s.place : Int) == ((p.place : Int) + 1) % 4294967296) = true := by simp; omega
            have epn : ((s.place : Int) != ((p.place : Int) + 1) % 4294967296) = false := by simp; omega
            have HPLC := Lib.hid hpl
            clear hpl
            by_cases hz : s.place = 0
            · have ez : ((s.place : Int) == 0) = true := by simp [hz]
              have HZ := Lib.hid hz
              clear hz
              go_wp2_with fail
              go_quiet (fail)
              go_wp2_with fail
              go_ret2
              exact ⟨_, _, rfl, (hch.alloc _).drewN _, .inr ⟨fun h => by obtain ⟨a, b, h1, h2, h3, h4⟩ := h.2.1 (j + 1) (by rw [← HN.out]; exact hlt); obtain ⟨q, h5, h6, h7, h8⟩ := h4 (by omega); rw [HS.out] at h1; rw [show j + 1 - 1 = j from rfl, HPJ.out] at h5; cases h1; cases h5; exact h7 HZ.out, .inl rfl, rfl⟩⟩
            · have ez : ((s.place : Int) == 0) = false := by simp; omega
              by_cases hla : p.last = true
              · have HLA := Lib.hid hla
                go_wp2_with fail
                go_quiet (fail)
                go_wp2_with fail
                go_ret2
                exact ⟨_, _, rfl, (hch.alloc _).drewN _, .inr ⟨fun h => (by obtain ⟨a, b, h1, h2, h3, h4⟩ := h.2.1 (j + 1) (by rw [← HN.out]; exact hlt); obtain ⟨q, h5, h6, h7, h8⟩ := h4 (by omega); rw [HS.out] at h1; rw [show j + 1 - 1 = j from rfl, HPJ.out] at h5; cases h1; cases h5; exact (by rw [HLA.out] at h8; cases h8)), .inl rfl, rfl⟩⟩
              · have hla' : p.last = false := by simpa using hla
                clear hla
                have HLA := Lib.hid hla'
                have HO : Hid (OkAt ss (j + 1)) := ⟨s, s0, HS.out, HS0.out, HT.out, fun _ => ⟨p, HPJ.out, HPLC.out, hz, hla'⟩⟩
                have HLEN : (dataOf (ss.take (j + 1))).length + s.data.length ≤ 140737488355328 := by
                  have h1 := HL.out s (List.mem_of_getElem? HS.out)
                  have h2 := dataOf_length (ss.take (j + 1)) 1000 (fun t ht => HL.out t (List.mem_of_mem_take ht))
                  have h3 : (ss.take (j + 1)).length ≤ j + 1 := List.length_take_le _ _
                  have h4 := Nat.mul_le_mul_left 1000 h3
                  omega
                go_wp2_with fail
                go_quiet (fail)
                go_wp2_with (at_builtin; go_loud (refine wpList_app_bytes rfl _ _ 33 rfl 5 Try.underlying33 Try.info5 u4 (.slice da s.data.length dc) (dataOf (ss.take (j + 1))) s.data rfl rfl ((hob.alloc _).drewN _) ((hrb.alloc _).drewN _) HLEN ?_; intro v' w3 ob3 c3 in3 nn3))
                have hc3 : Chg (fun _ => False) w w3 := ((hch.alloc _).drewN _).new c3 (fun q hq => hfr q hq)
                have hf3 : Fresh w v' := fun q hq => by
                  have := hch.size
                  rcases in3 q hq with h | h
                  · exact hfr q h
                  · simp at h; omega
                have hd3 : dataOf (ss.take (j + 1 + 1)) = dataOf (ss.take (j + 1)) ++ s.data := by rw [List.take_add_one, HS.out]; simp [dataOf]
                rw [← hd3] at ob3
                exact ⟨⟨j + 1 + 1, by omega, rfl, ob3, hf3, hc3, ok_succ hok.out HO.out⟩, by simp only [intOf]; omega⟩
          · have epl : ((s.place : Int) == ((p.place : Int) + 1) % 4294967296) = false := by simp; omega
            have epn : ((s.place : Int) != ((p.place : Int) + 1) % 4294967296) = true := by simp; omega
            go_wp2_with fail
            go_quiet (fail)
            go_wp2_with fail
            go_ret2
            exact ⟨_, _, rfl, (hch.alloc _).drewN _, .inr ⟨fun h => by obtain ⟨a, b, h1, h2, h3, h4⟩ := h.2.1 (j + 1) (by rw [← HN.out]; exact hlt); obtain ⟨q, h5, h6, h7, h8⟩ := h4 (by omega); rw [HS.out] at h1; rw [show j + 1 - 1 = j from rfl, HPJ.out] at h5; cases h1; cases h5; exact hpl h6, .inl rfl, rfl⟩⟩
      · have et : ((s.turn : Int) == s0.turn) = false := by simp; omega
        have en : ((s.turn : Int) != s0.turn) = true := by simp; omega
        go_wp2_with fail
        go_quiet (fail)
        go_wp2_with fail
        go_ret2
        exact ⟨_, _, rfl, (hch.alloc _).drewN _, .inr ⟨fun h => by obtain ⟨a, b, h1, h2, h3, _⟩ := h.2.1 k (by rw [← HN.out]; exact hlt); rw [HS.out] at h1; rw [HS0.out] at h2; cases h1; cases h2; exact ht h3, .inl rfl, rfl⟩⟩
    · obtain rfl : k = n := by omega
      obtain ⟨j, rfl⟩ : ∃ j, k = j + 1 := ⟨k - 1, by omega⟩
      obtain ⟨p, hp⟩ : ∃ p, ss[j]? = some p := ⟨_, List.getElem?_eq_getElem (by rw [← HN.out]; omega)⟩
      have p2 : wr.cell? ⟨g, o + j * 4 + 2, none⟩ = some (.bool p.last) := hch.cell (H4.out (j * 4 + 2) _ (flat_get ss j 2 p hp (by omega))) (fun h => h)
      have hlast : ss[ss.length - 1]? = some p := by rw [← HN.out]; exact hp
      have htake : ss.take (j + 1) = ss := List.take_of_length_le (by rw [← HN.out]; omega)
      have HPJ := Lib.hid hlast
      have HT := Lib.hid htake
      clear hp hlast htake
      cases hla : p.last
      · rw [hla] at p2
        go_wp2_with fail
        go_ret2
        exact ⟨_, _, rfl, hch, .inr ⟨fun h => (by obtain ⟨q, h1, h2⟩ := h.2.2; rw [HPJ.out] at h1; cases h1; rw [hla] at h2; cases h2), .inr rfl, rfl⟩⟩
      · rw [hla] at p2
        go_wp2_with fail
        go_ret2
        rw [HT.out] at hob
        exact ⟨_, _, rfl, hch, .inl ⟨⟨fun h => by rw [h] at HN; exact absurd HN.out (by simp), fun i hi => hok.out i (by rw [HN.out]; exact hi), p, HPJ.out, hla⟩, rfl, hob⟩⟩
set_option maxRecDepth 100000 in
set_option maxHeartbeats 1000000 in
theorem split_arg (place : Int) (v : Value) (w : World) (l : List UInt8) (hv : RB w v l) (hl : l.length ≤ 600) :
    Calls Try.prog 77 #[.int .u32 0, .int .u32 place, v] w fun e w' => e = .returned (.tuple #[.slice none 0 0, .int .i64 1]) ∧ w = w' := by
  obtain ⟨a, c, rfl⟩ := hv.form
  obtain ⟨n, hn⟩ : ∃ n, n = max ((l.length + 46) / 47) 1 := ⟨_, rfl⟩
  have hmax : (if ((l.length : Int) + 47 - 1) / 47 < 1 then (1 : Int) else ((l.length : Int) + 47 - 1) / 47) = (n : Int) := by split <;> omega
  clear hn
  go_enter Try.func77, Try.ntmps77
  go_wp2_with fail
  go_ret2
  exact ⟨rfl, rfl⟩

set_option maxRecDepth 100000 in
set_option maxHeartbeats 1000000 in
theorem split_range (turn place : Nat) (v : Value) (w : World) (l : List UInt8) (hv : RB w v l) (hp : place < 4294967296) (hl : l.length ≤ 600) (h0 : turn ≠ 0) (hq : ¬ place + max ((l.length + 46) / 47) 1 - 1 < 4294967296) :
    Calls Try.prog 77 #[.int .u32 turn, .int .u32 place, v] w fun e w' => e = .returned (.tuple #[.slice none 0 0, .int .i64 3]) ∧ w = w' := by
  obtain ⟨a, c, rfl⟩ := hv.form
  have e0 : ((turn : Int) == 0) = false := by simp; omega
  obtain ⟨n, hn⟩ : ∃ n, n = max ((l.length + 46) / 47) 1 := ⟨_, rfl⟩
  have hmax : (if ((l.length : Int) + 47 - 1) / 47 < 1 then (1 : Int) else ((l.length : Int) + 47 - 1) / 47) = (n : Int) := by split <;> omega
  have hn1 : n ≤ 13 := by omega
  have hn2 : 1 ≤ n := by omega
  have hle : 4294967295 < (place : Int) + n - 1 := by omega
  clear hn hq
  go_enter Try.func77, Try.ntmps77
  go_wp2_with fail
  go_ret2
  exact ⟨rfl, rfl⟩
end Go.Proofs.Ytjhkhdockiocgaa
