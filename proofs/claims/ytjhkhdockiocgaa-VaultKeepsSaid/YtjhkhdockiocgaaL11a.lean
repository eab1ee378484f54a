/- Layer 11's laws: what their walks share: the chapter's example, the image of a device (law level). -/
import Derived.Test.YtjhkhdockiocgaaVault7
import Derived.Test.YtjhkhdockiocgaaL10
import Derived.Test.YtjhkhdockiocgaaReader2
namespace Go.Proofs.Ytjhkhdockiocgaa
open Go.RowKit Go.Cat

theorem dj_image (w0 w : World) (D : Nat) (d : Dev) (S : Nat → Prop) (h : DJ w0 w D d S) :
    Calls Try.prog 43 #[.pointer (some ⟨D, 0, none⟩)] w fun e w' => ∃ v', e = .returned v' ∧ OB w' v' d.l.flatten ∧ Chg (fun _ => False) w w' ∧ Fresh w v' := by
  obtain ⟨lv, wv, h1⟩ := dj_dev h
  exact image_any w D lv wv d h1
/-- New memory beside a vault. -/
theorem VU.more {w0 w w' : World} {D V J q half t : Nat} {done : List (List UInt8)} {S S' : Nat → Prop} {d : Dev} (h : VU w0 w D V J q half t done S d) (c : Chg (fun _ => False) w w') (hS : ∀ k, S k → S' k) (hS' : ∀ k, S' k → S k ∨ (w.heap.size ≤ k ∧ k < w'.heap.size)) : VU w0 w' D V J q half t done S' d :=
  ⟨h.dj.kept c (fun _ _ h => h.elim) hS', h.inv, h.dn, h.lf, h.vis.kept c (fun h => h), h.ji.kept c (fun h => h), hS _ h.sV, hS _ h.sJ, h.ne⟩
theorem dj_blank {n : Nat} : Blank ⟨List.replicate n (zb 64), [], false, 0, 0, 0, 0⟩ n := ⟨rfl, rfl, rfl, rfl⟩
/-- The value's own block is one that is new, or there is none that counts. -/
def Newer (w w' : World) (v : Value) (k : Nat) : Prop := v.ownBlock = some k ∧ w.heap.size ≤ k ∧ k < w'.heap.size

set_option maxRecDepth 100000 in
set_option maxHeartbeats 2000000 in
theorem lives11 (w : World) : Calls Try.prog 38 #[] w fun e w' => e = .returned (.bool true) ∧ Chg (fun _ => False) w w' := by
  go_enter Try.func38, Try.ntmps38
  go_wp2_with fail
  refine (dj_new w w 20 (by omega) (by omega) (Chg.refl _ w)).mono ?_
  rintro e w1 ⟨D, rfl, h1, c1⟩
  have H1 := Lib.hid h1
  clear h1 c1
  have kc := conv_const10
  go_wp2_with fail
  refine (vformat w _ D 10 (fun k => False ∨ k = w1.heap.size) _ _ [120] (H1.out.kept ((Chg.refl (fun _ => False) w1).alloc _) (fun _ _ h => h.elim) (fun k hk => by
    rcases hk with hk | hk
    · exact hk.elim
    · exact .inr ⟨by omega, by rw [hk]; simp⟩)) dj_blank (.inl (rb_lit10 w1 _ [120] _ _ _ rfl rfl (by simp [maxLen]))) (.inr (fun k hk => by simp [Value.ownBlock] at hk; exact .inr (.inr hk.symm))) (by simp) (by decide) (by omega) (by omega)).mono ?_
  rintro e w2 ⟨V, J, d2, rfl, h2, T2, c2, t2⟩
  have H2 := Lib.hid h2
  clear h2 c2 t2 H1
  go_wp2_with fail
  refine (vcommit w _ D V J 10 0 1 _ (fun k => (((False ∨ k = w1.heap.size) ∨ k = J) ∨ k = V) ∨ k = w2.heap.size) _ _ [97] (H2.out.more ((Chg.refl (fun _ => False) w2).alloc _) (fun _ h => .inl h) (fun k hk => by
    rcases hk with hk | hk
    · exact .inl hk
    · exact .inr ⟨by omega, by rw [hk]; simp⟩)) (.inl (rb_lit10 w2 _ [97] _ _ _ rfl rfl (by simp [maxLen]))) (by simp) (by decide) (by omega) (by omega)).mono ?_
  rintro e w3 ⟨rfl, ⟨d3, h3⟩, T3, c3, t3⟩
  have H3 := Lib.hid h3
  clear h3 c3 t3 H2
  go_wp2_with fail
  refine (vseal w _ D V J 10 0 1 _ (fun k => ((((False ∨ k = w1.heap.size) ∨ k = J) ∨ k = V) ∨ k = w2.heap.size) ∨ k = w3.heap.size) _ _ [121] (H3.out.more ((Chg.refl (fun _ => False) w3).alloc _) (fun _ h => .inl h) (fun k hk => by
    rcases hk with hk | hk
    · exact .inl hk
    · exact .inr ⟨by omega, by rw [hk]; simp⟩)) (by simp) (.inl (rb_lit10 w3 _ [121] _ _ _ rfl rfl (by simp [maxLen]))) (.inr (fun k hk => by simp [Value.ownBlock] at hk; exact .inr (.inr hk.symm))) (by simp) (by decide) (by omega) (by omega) (by omega) (by omega)).mono ?_
  rintro e w4 ⟨rfl, ⟨J', d4, h4⟩, T4, c4, t4⟩
  have H4 := Lib.hid h4
  clear h4 c4 t4 H3
  go_wp2_with fail
  refine (vopen w _ D V J' 10 (1 - 0) (1 + 1) [[121]] _ _ H4.out (by omega) (by omega) (by omega) (by omega) (by simp)).mono ?_
  rintro e w5 ⟨B, iv, cv, rfl, ⟨r, rs, hrr, z5, r5⟩, c5⟩
  obtain ⟨rfl, rfl⟩ : r = [121] ∧ rs = [] := by simp at hrr; exact ⟨hrr.1.symm, hrr.2⟩
  obtain ⟨ca, cc, rfl⟩ := r5.form
  have v1 := convz10 w5 _ _ z5
  have C5 := Lib.hid (H4.out.dj.1.trans c5)
  clear z5 r5 c5 hrr
  go_wp2_with fail
  go_ret
  exact ⟨rfl, C5.out⟩
end Go.Proofs.Ytjhkhdockiocgaa
