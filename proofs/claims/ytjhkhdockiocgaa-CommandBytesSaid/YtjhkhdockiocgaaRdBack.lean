/- Plain words: a command's bytes are read as it. -/
import Derived.Test.YtjhkhdockiocgaaRdPure
namespace Go.Proofs.Ytjhkhdockiocgaa
open Go.RowKit Go.Cat

theorem rdNum_be (n x : Nat) (r : List UInt8) (h : x < 256 ^ n) : rdNum n (be x n ++ r, 0) = (x, (r, 0)) := by
  rw [rdNum_ok n _ (by simp), List.take_left' (by simp), List.drop_left' (by simp), ofBe_beP x n h]
theorem rdText_back (t r : List UInt8) (h : t.length ≤ 255) : rdText 255 (be t.length 2 ++ (t ++ r), 0) = (t, (r, 0)) := by
  have e : rdCount 255 (be t.length 2 ++ (t ++ r), 0) = (t.length, (t ++ r, 0)) := by
    unfold rdCount
    rw [rdNum_be 2 t.length (t ++ r) (by omega)]
    simp only
    rw [if_pos (by omega)]
  unfold rdText
  rw [e]
  simp only
  rw [rdRaw_ok _ _ (by simp)]
  simp
set_option maxRecDepth 100000 in
theorem wrap_fwd (x : Int) (hx : I64 x) : wrap64 (x % 18446744073709551616) = x := by
  unfold I64 at hx
  unfold wrap64
  omega
theorem rdInt_back (x : Int) (r : List UInt8) (h : I64 x) : rdInt (i8 x ++ r, 0) = (x, (r, 0)) := by
  unfold rdInt i8
  have hb : (x % 18446744073709551616).toNat < 256 ^ 8 := by
    have h8 := (show (256 : Nat) ^ 8 = 18446744073709551616 by decide)
    omega
  rw [rdNum_be 8 _ r hb]
  simp only
  have e : (((x % 18446744073709551616).toNat : Nat) : Int) = x % 18446744073709551616 := by omega
  rw [e, wrap_fwd x h]
theorem rdPnt_back (p : Pnt) (r : List UInt8) (h : I64 p.at_ ∧ I64 p.val) : rdPnt (p.enc ++ r, 0) = (p, (r, 0)) := by
  unfold rdPnt Pnt.enc
  rw [List.append_assoc, rdInt_back _ _ h.1]
  simp only
  rw [rdInt_back _ _ h.2]
theorem rdRow_back : ∀ (ps acc : List Pnt) (r : List UInt8), (∀ p ∈ ps, I64 p.at_ ∧ I64 p.val) → rdRow ps.length acc (penc ps ++ r, 0) = (acc ++ ps, (r, 0))
  | [], acc, r, _ => by simp [rdRow, penc]
  | p :: ps, acc, r, h => by
    have e : penc (p :: ps) ++ r = p.enc ++ (penc ps ++ r) := by simp [penc]
    rw [e, List.length_cons, rdRow, rdPnt_back p _ (h p (by simp))]
    simp only
    rw [if_neg (by simp), rdRow_back ps _ r (fun q hq => h q (by simp [hq]))]
    simp
theorem rdPts_back (ps : List Pnt) (r : List UInt8) (h : ∀ p ∈ ps, I64 p.at_ ∧ I64 p.val) (hn : ps.length ≤ 255) : rdPts (be ps.length 2 ++ (penc ps ++ r), 0) = (ps, (r, 0)) := by
  have e : rdCount 255 (be ps.length 2 ++ (penc ps ++ r), 0) = (ps.length, (penc ps ++ r, 0)) := by
    unfold rdCount
    rw [rdNum_be 2 ps.length _ (by omega)]
    simp only
    rw [if_pos (by omega)]
  unfold rdPts
  rw [e]
  simp only
  rw [rdRow_back ps [] r h]
  simp
theorem rdc_back (x : Cmd) (ps : List Pnt) (pv : Value) (r : List UInt8) (hk : 0 ≤ x.kind ∧ x.kind < 10) (h : ∀ i ∈ x.its ps, i.ok) : rdc x.kind pv (encIts (x.its ps) ++ r, 0) = (x.only pv, x.onlyPs ps, (r, 0)) := by
  have hk' : x.kind = 0 ∨ x.kind = 1 ∨ x.kind = 2 ∨ x.kind = 3 ∨ x.kind = 4 ∨ x.kind = 5 ∨ x.kind = 6 ∨ x.kind = 7 ∨ x.kind = 8 ∨ x.kind = 9 := by omega
  rcases hk' with g | g | g | g | g | g | g | g | g | g <;> simp [Cmd.its, g, It.ok] at h <;> simp [rdc, Cmd.its, g, encIts, It.enc, Cmd.only, Cmd.onlyPs]
  · rw [rdText_back _ _ h.1]; simp only; rw [rdInt_back _ _ h.2.1]; simp only; rw [rdInt_back _ _ h.2.2]; simp
  · rw [rdText_back _ _ h.1]; simp only; rw [rdInt_back _ _ h.2.1]; simp only; rw [rdInt_back _ _ h.2.2]; simp
  · rw [rdText_back _ _ h]; simp
  · rw [rdText_back _ _ h.1]; simp only; rw [rdText_back _ _ h.2.1]; simp only; rw [rdPts_back _ _ h.2.2.2 h.2.2.1]; simp
  · rw [rdText_back _ _ h.1]; simp only; rw [rdInt_back _ _ h.2.1]; simp only; rw [rdInt_back _ _ h.2.2.1]; simp only; rw [rdInt_back _ _ h.2.2.2]; simp
  · rw [rdText_back _ _ h.1]; simp only; rw [rdText_back _ _ h.2.1]; simp only; rw [rdText_back _ _ h.2.2.1]; simp only; rw [rdInt_back _ _ h.2.2.2.1]; simp only; rw [rdInt_back _ _ h.2.2.2.2]; simp
  · rw [rdText_back _ _ h.1]; simp only; rw [rdText_back _ _ h.2]; simp
  · rw [rdText_back _ _ h.1]; simp only; rw [rdText_back _ _ h.2.1]; simp only; rw [rdInt_back _ _ h.2.2.1]; simp only; rw [rdInt_back _ _ h.2.2.2]; simp
  · rw [rdInt_back _ _ h]; simp
  · rw [rdInt_back _ _ h]; simp
theorem ofRes_back (x : Cmd) (ps : List Pnt) (pv : Value) (hk : 0 ≤ x.kind ∧ x.kind < 10) (h : ∀ i ∈ x.its ps, i.ok) : ofRes pv (be x.kind.toNat 1 ++ encIts (x.its ps)) = (x.only pv, x.onlyPs ps, 0) := by
  have e := rdNum_be 1 x.kind.toNat (encIts (x.its ps)) (by omega)
  have ek : ((x.kind.toNat : Nat) : Int) = x.kind := by omega
  have e2 := rdc_back x ps pv [] hk h
  rw [List.append_nil] at e2
  unfold ofRes
  rw [e]
  simp only
  rw [ek, e2]
  simp
  omega
theorem only_its (x : Cmd) (ps : List Pnt) (pv : Value) : (x.only pv).its (x.onlyPs ps) = x.its ps := by
  unfold Cmd.its Cmd.only Cmd.onlyPs
  simp only
  repeat' split
  all_goals simp_all
theorem like_only (x : Cmd) (ps : List Pnt) (va vb : Value) : (x.only va).like (x.only vb) ps ps := ⟨rfl, rfl, rfl, rfl, ⟨rfl, rfl⟩, ⟨rfl, rfl, rfl⟩, ⟨rfl, rfl, rfl, rfl⟩, rfl, rfl, rfl, rfl⟩
theorem like_base (x : Cmd) (ps : List Pnt) (va : Value) (hk : ¬ (0 ≤ x.kind ∧ x.kind < 10)) : (x.only va).like x.base (x.onlyPs ps) [] := by
  unfold Cmd.like Cmd.only Cmd.base Cmd.onlyPs
  have h : x.kind ≠ 0 ∧ x.kind ≠ 1 ∧ x.kind ≠ 2 ∧ x.kind ≠ 3 ∧ x.kind ≠ 4 ∧ x.kind ≠ 5 ∧ x.kind ≠ 6 ∧ x.kind ≠ 7 ∧ x.kind ≠ 8 ∧ x.kind ≠ 9 := by omega
  simp [h]
end Go.Proofs.Ytjhkhdockiocgaa
