/- The law OctetWrites: items, what they are written as; small words. -/
import Derived.Test.YtncgeeaifacapaaL03i
import Derived.Deep.CutRange
import Derived.Deep.CutBlock
namespace Go.Proofs.Ytncgeeaifacapaa
open Go.RowKit Go.Cat

def Itm.enc (i : Itm) : List UInt8 := if i.kind % 4 = 0 then be i.x i.width.toNat else if i.kind % 4 = 1 then be i.x 8 else if i.kind % 4 = 2 then be i.s.length 2 ++ i.s else i.s
def Itm.good (i : Itm) : Prop := i.s.length ≤ 200 ∧ (i.kind % 4 = 0 → isW i.width ∧ i.x < 2 ^ (8 * i.width.toNat))
def encs (K : List Itm) : List UInt8 := K.flatMap Itm.enc
theorem enc_len (i : Itm) (h : i.good) : i.enc.length ≤ 202 := by
  unfold Itm.enc
  split
  · rename_i h0
    have := (h.2 h0).1
    unfold isW at this
    rw [be_length]; omega
  · split
    · rw [be_length]; omega
    · split
      · have := h.1; simp; omega
      · have := h.1; omega
theorem encs_len : ∀ (K : List Itm), (∀ x ∈ K, x.good) → (encs K).length ≤ 202 * K.length
  | [], _ => by simp [encs]
  | i :: K, h => by
    have h1 := enc_len i (h i (by simp))
    have h2 := encs_len K (fun x hx => h x (by simp [hx]))
    simp only [encs, List.flatMap_cons, List.length_append, List.length_cons] at *
    omega
theorem encs_snoc (K : List Itm) (i : Itm) : encs (K ++ [i]) = encs K ++ i.enc := by simp [encs]

/-- The writer so far, and the items that were kept, each apart from the other, both new since w0. -/
def KUp (w0 w : World) (b : Nat) (l : List UInt8) (v : Value) (K : List Itm) : Prop :=
  ∃ S, WriterAt w S b l ∧ (∀ k, S k → w0.heap.size ≤ k ∧ k < w.heap.size) ∧ Owns w 4 v K.length (K.flatMap Itm.cells) ∧ (∀ k, v.ownBlock = some k → w0.heap.size ≤ k ∧ ¬ S k) ∧ Chg (fun _ => False) w0 w
theorem KUp.same {w0 w w' : World} {b : Nat} {l : List UInt8} {v : Value} {K : List Itm} (h : KUp w0 w b l v K) (c : Chg (fun _ => False) w w') : KUp w0 w' b l v K := by
  obtain ⟨S, h1, h2, h3, h4, h5⟩ := h
  have z := c.size
  exact ⟨S, h1.kept c (fun _ _ h => h), fun k hk => ⟨(h2 k hk).1, by have := (h2 k hk).2; omega⟩, h3.kept c (fun _ _ h => h), h4, h5.trans c⟩
theorem KUp.wrote {w0 w w' : World} {b : Nat} {l : List UInt8} {v : Value} {K : List Itm} {S : Nat → Prop} (h2 : ∀ k, S k → w0.heap.size ≤ k ∧ k < w.heap.size) (h3 : Owns w 4 v K.length (K.flatMap Itm.cells)) (h4 : ∀ k, v.ownBlock = some k → w0.heap.size ≤ k ∧ ¬ S k) (h5 : Chg (fun _ => False) w0 w)
    (h : WriterAt w' (ext S w w') b l) (c : Chg S w w') : KUp w0 w' b l v K := by
  have z := c.size
  have z0 := h5.size
  refine ⟨_, h, fun k hk => ?_, h3.kept c (fun k hk => (h4 k hk).2), fun k hk => ⟨(h4 k hk).1, fun hx => ?_⟩, h5.new c (fun k hk => (h2 k hk).1)⟩
  · rcases hk with h1 | h1
    · have := h2 k h1; omega
    · omega
  · rcases hx with h1 | h1
    · exact (h4 k hk).2 h1
    · have := h3.lt k hk; omega

theorem info_item : (Try.prog.info? 73).map (fun i => (i.zero, i.size, i.bytes)) = some (some (.agg #[.int .u8 0, .int .u64 0, .int .i64 0, .string ⟨#[]⟩]), 4, 40) := by kernel_rfl
set_option maxRecDepth 100000 in
theorem wrap_mod (x : Nat) (hx : x < 18446744073709551616) : wrap64 (x : Int) % 18446744073709551616 = (x : Int) := by
  unfold wrap64
  have h1 : (x : Int) < 18446744073709551616 := by omega
  have h0 : (0 : Int) ≤ x := by omega
  generalize (x : Int) = z at h0 h1 ⊢
  omega
theorem ofBe_be3 (x n : Nat) (h : x < 256 ^ n) : ofBe (be x n) = x := by
  have key : ∀ (n a : Nat), (be x n).foldl (fun a b => a * 256 + b.toNat) a = a * 256 ^ n + x % 256 ^ n := by
    intro n
    induction n with
    | zero => intro a; simp [be, Nat.mod_one]
    | succ n ih =>
      intro a
      have h : (UInt8.ofNat (x / 256 ^ n % 256)).toNat = x / 256 ^ n % 256 := by
        rw [UInt8.toNat_ofNat']; omega
      rw [be, List.foldl_cons, ih, h, Nat.add_mul, Nat.pow_succ, Nat.mod_mul, Nat.mul_assoc, Nat.mul_comm 256 (256 ^ n), Nat.mul_comm (256 ^ n) (x / 256 ^ n % 256)]
      omega
  rw [ofBe, key, Nat.mod_eq_of_lt h]; simp
theorem exec_convert {P : Program} {o : Oper} {a : Act} {w : World} (src dst : TypeId) (x : Operand) (v0 v : Value) (w' : World) (ho : o.op = .convert src dst x) (hx : a.eval x = v0) (h : (convert src dst v0).run P w = .ok v w') : (execOp a.eval o).run P w = .ok (.value v) w' := by
  unfold execOp
  simp only [ho, hx, Sem.run_bind, Sem.run_pure, h, Result.andThen_ok]
theorem load_u64 (w : World) (p : Addr) (x : Int) (h : w.cell? p = some (.int .u64 x)) (hp : p.spot = none := by rfl) : (Instr.loadAt 22 (.pointer (some p))).run Try.prog w = .ok (.int .u64 x) w := by
  obtain ⟨b, o, s⟩ := p
  simp only at hp; subst hp
  go_simp
theorem load_i64 (w : World) (p : Addr) (x : Int) (h : w.cell? p = some (.int .i64 x)) (hp : p.spot = none := by rfl) : (Instr.loadAt 3 (.pointer (some p))).run Try.prog w = .ok (.int .i64 x) w := by
  obtain ⟨b, o, s⟩ := p
  simp only at hp; subst hp
  go_simp
theorem load_str (w : World) (p : Addr) (x : ByteArray) (h : w.cell? p = some (.string x)) (hp : p.spot = none := by rfl) : (Instr.loadAt 9 (.pointer (some p))).run Try.prog w = .ok (.string x) w := by
  obtain ⟨b, o, s⟩ := p
  simp only at hp; subst hp
  go_simp
theorem shr_no (x n : Nat) (h : x < 2 ^ (8 * (n : Int).toNat)) : ¬ (0 : Int) < (x : Int) / 2 ^ (8 * n) := by
  rw [Int.toNat_natCast] at h
  have h1 : x / 2 ^ (8 * n) = 0 := Nat.div_eq_of_lt h
  have h2 : ((x / 2 ^ (8 * n) : Nat) : Int) = (x : Int) / 2 ^ (8 * n) := by simp
  rw [← h2, h1]; simp
theorem shr_yes (x n : Nat) (h : ¬ x < 2 ^ (8 * (n : Int).toNat)) : (0 : Int) < (x : Int) / 2 ^ (8 * n) := by
  rw [Int.toNat_natCast] at h
  have h1 : 0 < x / 2 ^ (8 * n) := Nat.div_pos (by omega) (Nat.two_pow_pos _)
  have h2 : ((x / 2 ^ (8 * n) : Nat) : Int) = (x : Int) / 2 ^ (8 * n) := by simp
  rw [← h2]; omega
theorem wrap_eq (n : Int) : (wrap64 n == IntKind.i64.wrap n) = true := by
  unfold wrap64
  rw [IntKind.wrap_i64]
  exact beq_self_eq_true _
end Go.Proofs.Ytncgeeaifacapaa
