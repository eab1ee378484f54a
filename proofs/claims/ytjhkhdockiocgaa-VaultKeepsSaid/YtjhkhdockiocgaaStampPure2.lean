/- Plain words on a sector's bytes; a result of a struct and a number. No program's function is named. -/
import Derived.Test.YtjhkhdockiocgaaStamp2
namespace Go.Proofs.Ytjhkhdockiocgaa
open Go.RowKit Go.Cat

theorem results_row_tmp {P : Program} {fn : Func} {p u : Tmp} {ty : TypeId} (h : fn.results = #[.cell p ty, .tmp u]) (tmps : Array Value) (w : World) (g : Nat) (t : TypeId) (cs : Array Value) (fr : Nat × Nat) (d : TypeDesc)
    (hp : tmps.getD p undef = .pointer (some ⟨g, 0, none⟩)) (hg : w.heap[g]? = some (.cells cs t fr))
    (hu : P.underlying ty = some d) (hd : (match d with | .struct _ | .array _ _ => true | _ => false) = true) (hi : (P.info? ty).map (·.size) = some cs.size) :
    (results fn tmps).run P w = .ok (.tuple #[.agg cs, tmps.getD u undef]) w := by
  have hp' : tmps[p]?.getD undef = .pointer (some ⟨g, 0, none⟩) := by simpa using hp
  simp [results, h, hp', asAddr, run_loadVar_row w g t ty cs fr d hg hu hd hi]

theorem and_last : ∀ n : Nat, n < 256 → bits .and .i64 (n : Int) 128 = if 128 ≤ n then 128 else 0 := fun n h => by
  have h1 := (bits_nat .i64 8 (by decide) (fun m h0 h1 => by rw [IntKind.wrap_i64]; omega) n 128 (by omega) (by omega)).1
  have h2 : ∀ n : Fin 256, n.val &&& 128 = if 128 ≤ n.val then 128 else 0 := by decide +kernel
  have h3 := h2 ⟨n, h⟩
  simp only at h3
  rw [h3] at h1
  refine h1.trans ?_
  split <;> rfl
theorem and_rest : ∀ n : Nat, n < 256 → bits .and .i64 (n : Int) 127 = ((n % 128 : Nat) : Int) := fun n h => by
  have h1 := (bits_nat .i64 8 (by decide) (fun m h0 h1 => by rw [IntKind.wrap_i64]; omega) n 127 (by omega) (by omega)).1
  have h2 : ∀ n : Fin 256, n.val &&& 127 = n.val % 128 := by decide +kernel
  have h3 := h2 ⟨n, h⟩
  simp only at h3
  rw [h3] at h1
  exact h1
theorem foldBe_be (x : Nat) : ∀ (n a : Nat), (be x n).foldl (fun a b => a * 256 + b.toNat) a = a * 256 ^ n + x % 256 ^ n
  | 0, a => by simp [be, Nat.mod_one]
  | n + 1, a => by
    have h : (UInt8.ofNat (x / 256 ^ n % 256)).toNat = x / 256 ^ n % 256 := by
      rw [UInt8.toNat_ofNat']; omega
    rw [be, List.foldl_cons, foldBe_be x n, h, Nat.add_mul, Nat.pow_succ, Nat.mod_mul, Nat.mul_assoc, Nat.mul_comm 256 (256 ^ n), Nat.mul_comm (256 ^ n) (x / 256 ^ n % 256)]
    omega
theorem ofBe_be (x n : Nat) (h : x < 256 ^ n) : ofBe (be x n) = x := by
  rw [ofBe, foldBe_be, Nat.mod_eq_of_lt h]; simp
theorem foldBe_inj : ∀ (a b : List UInt8) (x y : Nat), a.length = b.length → a.foldl (fun a b => a * 256 + b.toNat) x = b.foldl (fun a b => a * 256 + b.toNat) y → x = y ∧ a = b
  | [], [], x, y, _, h => ⟨by simpa using h, rfl⟩
  | p :: a, q :: b, x, y, hl, h => by
    obtain ⟨h1, h2⟩ := foldBe_inj a b _ _ (by simpa using hl) (by simpa using h)
    have := p.toNat_lt; have := q.toNat_lt
    have h3 : p = q := UInt8.toNat_inj.1 (by omega)
    exact ⟨by omega, by rw [h2, h3]⟩
theorem ofBe_inj {a b : List UInt8} (hl : a.length = b.length) (h : ofBe a = ofBe b) : a = b := (foldBe_inj a b 0 0 hl h).2

theorem torn_or {f o : List UInt8} {k : Nat} (hf : f.length = 64) (hf8 : f.take 8 = f.drop 56) (ho8 : o.take 8 = o.drop 56) (hne : f.take 8 ≠ o.take 8) (hk : k ≤ 64)
    (h : (f.take k ++ o.drop k).take 8 = (f.take k ++ o.drop k).drop 56) : f.take k ++ o.drop k = f ∨ f.take k ++ o.drop k = o := by
  have hlk : (f.take k).length = k := by simp; omega
  by_cases h8 : k < 8
  · right
    have h1 : (f.take k ++ o.drop k).drop 56 = o.drop 56 := by
      rw [List.drop_append, hlk, List.drop_eq_nil_of_le (by omega), List.drop_drop, List.nil_append]; congr 1; omega
    have h2 : f.take k = o.take k := by
      have := congrArg (List.take k) (h.trans (h1.trans ho8.symm))
      rw [List.take_take, List.take_take, Nat.min_eq_left (by omega), List.take_append_of_le_length (by omega), List.take_of_length_le (by omega)] at this
      exact this
    rw [h2, List.take_append_drop]
  · have h3 : (f.take k ++ o.drop k).take 8 = f.take 8 := by
      rw [List.take_append_of_le_length (by omega), List.take_take, Nat.min_eq_left (by omega)]
    by_cases h56 : k ≤ 56
    · exfalso
      have h1 : (f.take k ++ o.drop k).drop 56 = o.drop 56 := by
        rw [List.drop_append, hlk, List.drop_eq_nil_of_le (by omega), List.drop_drop, List.nil_append]; congr 1; omega
      exact hne (by rw [← h3, h, h1, ho8])
    · left
      have h1 := congrArg (List.drop (k - 56)) ((h.symm.trans h3).trans hf8)
      rw [List.drop_drop, List.drop_drop, show 56 + (k - 56) = k by omega, List.drop_append_of_le_length (by omega), List.drop_of_length_le (by omega), List.nil_append] at h1
      rw [h1, List.take_append_drop]
variable {turn place : Nat} {last : Bool} {d : List UInt8}
theorem pack_len (hd : d.length ≤ 47) : (packOf turn place last d).length = 64 := by
  simp [packOf, zb]; omega
theorem pack_t : (packOf turn place last d).take 4 = be turn 4 := by
  simp only [packOf, List.nil_append, List.append_assoc]
  exact List.take_left' (by simp)
theorem drop_mid {α : Type} (x y z : List α) (n : Nat) (hx : x.length = n) : ((x ++ y ++ z).drop n).take y.length = y := by
  rw [List.append_assoc, List.drop_left' hx, List.take_left' rfl]
theorem pack_p : ((packOf turn place last d).drop 4).take 4 = be place 4 := by
  have := drop_mid (be turn 4) (be place 4) (be (d.length + if last then 128 else 0) 1 ++ d ++ zb (47 - d.length) ++ be turn 4 ++ be place 4) 4 (by simp)
  simpa only [packOf, List.nil_append, List.append_assoc, be_length] using this
theorem pack_n : ((packOf turn place last d).drop 8).take 1 = be (d.length + if last then 128 else 0) 1 := by
  have := drop_mid (be turn 4 ++ be place 4) (be (d.length + if last then 128 else 0) 1) (d ++ zb (47 - d.length) ++ be turn 4 ++ be place 4) 8 (by simp)
  simpa only [packOf, List.nil_append, List.append_assoc, be_length] using this
theorem pack_d (hd : d.length ≤ 47) : ((packOf turn place last d).drop 9).take 47 = d ++ zb (47 - d.length) := by
  have := drop_mid (be turn 4 ++ be place 4 ++ be (d.length + if last then 128 else 0) 1) (d ++ zb (47 - d.length)) (be turn 4 ++ be place 4) 9 (by simp)
  rw [show (d ++ zb (47 - d.length)).length = 47 by simp [zb]; omega] at this
  simpa only [packOf, List.nil_append, List.append_assoc] using this
theorem pack_end (hd : d.length ≤ 47) : (packOf turn place last d).drop 56 = be turn 4 ++ be place 4 := by
  have : packOf turn place last d = (be turn 4 ++ be place 4 ++ be (d.length + if last then 128 else 0) 1 ++ d ++ zb (47 - d.length)) ++ (be turn 4 ++ be place 4) := by simp only [packOf, List.nil_append, List.append_assoc]
  rw [this]
  exact List.drop_left' (by simp [zb]; omega)
theorem pack_8 : (packOf turn place last d).take 8 = be turn 4 ++ be place 4 := by
  have : packOf turn place last d = (be turn 4 ++ be place 4) ++ (be (d.length + if last then 128 else 0) 1 ++ d ++ zb (47 - d.length) ++ be turn 4 ++ be place 4) := by simp only [packOf, List.nil_append, List.append_assoc]
  rw [this]
  exact List.take_left' (by simp)

theorem pack_end_t (hd : d.length ≤ 47) : ((packOf turn place last d).drop 56).take 4 = be turn 4 := by
  rw [pack_end hd]; exact List.take_left' (by simp)
theorem pack_end_p (hd : d.length ≤ 47) : ((packOf turn place last d).drop 60).take 4 = be place 4 := by
  have : (packOf turn place last d).drop 60 = ((packOf turn place last d).drop 56).drop 4 := by rw [List.drop_drop]
  rw [this, pack_end hd, List.drop_left' (by simp), List.take_of_length_le (by simp)]
/-- What 64 bytes are as a sector: code 7 nothing, 5 torn, 2 of no form, 0 a sector. -/
def stampsAlike (l : List UInt8) : Prop := ofBe (l.take 4) = ofBe ((l.drop 56).take 4) ∧ ofBe ((l.drop 4).take 4) = ofBe ((l.drop 60).take 4)
def cleanRest (l : List UInt8) : Prop := ofBe (l.take 4) ≠ 0 ∧ ofBe ((l.drop 8).take 1) % 128 ≤ 47 ∧ ∀ x ∈ ((l.drop 9).take 47).drop (ofBe ((l.drop 8).take 1) % 128), x = 0
theorem alike_8 {l : List UInt8} (hl : l.length = 64) (h : stampsAlike l) : l.take 8 = l.drop 56 := by
  have h1 := ofBe_inj (by simp; omega) h.1
  have h2 := ofBe_inj (by simp; omega) h.2
  have e : ∀ m : List UInt8, m.take 8 = m.take 4 ++ (m.drop 4).take 4 := fun m => by rw [show 8 = 4 + 4 from rfl, List.take_add]
  have e2 : l.drop 56 = (l.drop 56).take 4 ++ (l.drop 60).take 4 := by
    have h4 := e (l.drop 56)
    rw [List.take_of_length_le (by simp; omega), List.drop_drop] at h4
    exact h4
  rw [e, h1, h2, ← e2]
theorem pack_alike (hd : d.length ≤ 47) : stampsAlike (packOf turn place last d) := by
  unfold stampsAlike
  rw [pack_t, pack_end_t hd, pack_p, pack_end_p hd]
  exact ⟨rfl, rfl⟩
theorem pack_num (hd : d.length ≤ 47) : ofBe (((packOf turn place last d).drop 8).take 1) = d.length + if last then 128 else 0 := by
  rw [pack_n, ofBe_be _ _ (by split <;> omega)]
theorem pack_mod (hd : d.length ≤ 47) : ofBe (((packOf turn place last d).drop 8).take 1) % 128 = d.length := by
  rw [pack_num hd]; split <;> omega
theorem pack_clean (hd : d.length ≤ 47) (ht : turn < 4294967296) (h0 : turn ≠ 0) : cleanRest (packOf turn place last d) := by
  refine ⟨by rw [pack_t, ofBe_be _ _ (by omega)]; exact h0, by rw [pack_mod hd]; omega, ?_⟩
  rw [pack_mod hd, pack_d hd, List.drop_left' rfl]
  intro x hx
  exact (List.mem_replicate.1 hx).2
theorem pack_some (ht : turn < 4294967296) (h0 : turn ≠ 0) : ¬ ∀ x ∈ packOf turn place last d, x = 0 := fun h => h0 (by
  have h1 : ∀ x ∈ be turn 4, x = 0 := fun x hx => h x (by rw [← pack_t (turn := turn) (place := place) (last := last) (d := d)] at hx; exact List.mem_of_mem_take hx)
  have h2 : be turn 4 = List.replicate 4 0 := List.eq_replicate_iff.2 ⟨by simp, h1⟩
  have h3 := ofBe_be turn 4 (by omega)
  rw [h2] at h3
  exact h3.symm)
theorem zb_8 : (zb 64).take 8 = (zb 64).drop 56 := by decide
theorem pack_ne_zb (ht : turn < 4294967296) (h0 : turn ≠ 0) : (packOf turn place last d).take 8 ≠ (zb 64).take 8 := fun h => h0 (by
  have h2 := congrArg (List.take 4) h
  rw [List.take_take, List.take_take, Nat.min_eq_left (by omega), pack_t] at h2
  have h3 := ofBe_be turn 4 (by omega)
  rw [h2] at h3
  exact h3.symm)
end Go.Proofs.Ytjhkhdockiocgaa
