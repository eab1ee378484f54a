/- reply.Word, Failed; json.Get; law 31's lives. -/
import Derived.Test.YtmnnahkaenikkaaDoorReply
namespace Go.Proofs.YtmnnahkaenikkaaDoor
open Go.RowKit Go.Cat
def wordsC : List Value := [.string ⟨#[111, 107]⟩, .string ⟨#[97, 114, 103, 117, 109, 101, 110, 116]⟩, .string ⟨#[102, 111, 114, 109]⟩, .string ⟨#[114, 97, 110, 103, 101]⟩, .string ⟨#[115, 104, 111, 114, 116]⟩, .string ⟨#[116, 111, 114, 110]⟩, .string ⟨#[102, 117, 108, 108]⟩, .string ⟨#[110, 111, 110, 101]⟩, .string ⟨#[115, 97, 109, 101]⟩, .string ⟨#[104, 101, 108, 100]⟩, .string ⟨#[113, 117, 111, 116, 97]⟩, .string ⟨#[97, 117, 116, 104]⟩, .string ⟨#[108, 111, 110, 103]⟩, .string ⟨#[100, 111, 119, 110]⟩, .string ⟨#[115, 116, 97, 116, 101]⟩, .string ⟨#[110, 97, 109, 101]⟩, .string ⟨#[98, 114, 111, 107, 101, 110]⟩, .string ⟨#[111, 114, 100, 101, 114]⟩]
def zero18 : List Value := [.string ⟨#[]⟩, .string ⟨#[]⟩, .string ⟨#[]⟩, .string ⟨#[]⟩, .string ⟨#[]⟩, .string ⟨#[]⟩, .string ⟨#[]⟩, .string ⟨#[]⟩, .string ⟨#[]⟩, .string ⟨#[]⟩, .string ⟨#[]⟩, .string ⟨#[]⟩, .string ⟨#[]⟩, .string ⟨#[]⟩, .string ⟨#[]⟩, .string ⟨#[]⟩, .string ⟨#[]⟩, .string ⟨#[]⟩]
theorem words_one : one wordsC := fun u hu => List.all_eq_true.1 (show wordsC.all (fun v => v.oneCell') = true by decide) u hu
set_option maxRecDepth 100000 in
set_option maxHeartbeats 4000000 in
theorem word_c (e : Int) (w : World) : Calls Tryd.prog 15 #[.int .i64 e] w fun x w' => x = .returned (.string ⟨(wordOf e).toArray⟩) ∧ Chg (fun _ => False) w w' := by
  have hst : (Instr.storeAt 51 (.pointer (some ⟨w.heap.size, 0, none⟩)) (.agg #[.string ⟨#[111, 107]⟩, .string ⟨#[97, 114, 103, 117, 109, 101, 110, 116]⟩, .string ⟨#[102, 111, 114, 109]⟩, .string ⟨#[114, 97, 110, 103, 101]⟩, .string ⟨#[115, 104, 111, 114, 116]⟩, .string ⟨#[116, 111, 114, 110]⟩, .string ⟨#[102, 117, 108, 108]⟩, .string ⟨#[110, 111, 110, 101]⟩, .string ⟨#[115, 97, 109, 101]⟩, .string ⟨#[104, 101, 108, 100]⟩, .string ⟨#[113, 117, 111, 116, 97]⟩, .string ⟨#[97, 117, 116, 104]⟩, .string ⟨#[108, 111, 110, 103]⟩, .string ⟨#[100, 111, 119, 110]⟩, .string ⟨#[115, 116, 97, 116, 101]⟩, .string ⟨#[110, 97, 109, 101]⟩, .string ⟨#[98, 114, 111, 107, 101, 110]⟩, .string ⟨#[111, 114, 100, 101, 114]⟩])).run Tryd.prog (w.alloc (.cells #[.string ⟨#[]⟩, .string ⟨#[]⟩, .string ⟨#[]⟩, .string ⟨#[]⟩, .string ⟨#[]⟩, .string ⟨#[]⟩, .string ⟨#[]⟩, .string ⟨#[]⟩, .string ⟨#[]⟩, .string ⟨#[]⟩, .string ⟨#[]⟩, .string ⟨#[]⟩, .string ⟨#[]⟩, .string ⟨#[]⟩, .string ⟨#[]⟩, .string ⟨#[]⟩, .string ⟨#[]⟩, .string ⟨#[]⟩] 51)) = .ok () (w.alloc (.cells wordsC.toArray 51)) :=
    store_new (P := Tryd.prog) 51 zero18 wordsC 51 (by kernel_rfl) rfl words_one w
  obtain ⟨w1, hw1⟩ : ∃ w1, w1 = w.alloc (.cells wordsC.toArray 51) := ⟨_, rfl⟩
  rw [← hw1] at hst
  have c1 : Chg (fun _ => False) w w1 := by rw [hw1]; exact (Chg.refl _ w).alloc _
  have hld : ∀ (i : Nat) (v : Value), wordsC[i]? = some v → w1.cell? ⟨w.heap.size, i, none⟩ = some v := fun i v h => by
    rw [hw1, cell_of_heap (heap_alloc_new w _)]; simpa using h
  have HL := Lib.hid hld
  clear hw1 hld
  by_cases h : 0 ≤ e ∧ e < 18
  · rcases (show e = 0 ∨ e = 1 ∨ e = 2 ∨ e = 3 ∨ e = 4 ∨ e = 5 ∨ e = 6 ∨ e = 7 ∨ e = 8 ∨ e = 9 ∨ e = 10 ∨ e = 11 ∨ e = 12 ∨ e = 13 ∨ e = 14 ∨ e = 15 ∨ e = 16 ∨ e = 17 by omega) with rfl | rfl | rfl | rfl | rfl | rfl | rfl | rfl | rfl | rfl | rfl | rfl | rfl | rfl | rfl | rfl | rfl | rfl
    · have hc := HL.out 0 _ rfl
      clear h
      go_enter Tryd.func15, Tryd.ntmps15
      go_wp2_with (refine wpList_store rfl 51 _ _ rfl _ _ _ rfl rfl hst ?_)
      go_ret
      exact ⟨rfl, c1⟩
    · have hc := HL.out 1 _ rfl
      clear h
      go_enter Tryd.func15, Tryd.ntmps15
      go_wp2_with (refine wpList_store rfl 51 _ _ rfl _ _ _ rfl rfl hst ?_)
      go_ret
      exact ⟨rfl, c1⟩
    · have hc := HL.out 2 _ rfl
      clear h
      go_enter Tryd.func15, Tryd.ntmps15
      go_wp2_with (refine wpList_store rfl 51 _ _ rfl _ _ _ rfl rfl hst ?_)
      go_ret
      exact ⟨rfl, c1⟩
    · have hc := HL.out 3 _ rfl
      clear h
      go_enter Tryd.func15, Tryd.ntmps15
      go_wp2_with (refine wpList_store rfl 51 _ _ rfl _ _ _ rfl rfl hst ?_)
      go_ret
      exact ⟨rfl, c1⟩
    · have hc := HL.out 4 _ rfl
      clear h
      go_enter Tryd.func15, Tryd.ntmps15
      go_wp2_with (refine wpList_store rfl 51 _ _ rfl _ _ _ rfl rfl hst ?_)
      go_ret
      exact ⟨rfl, c1⟩
    · have hc := HL.out 5 _ rfl
      clear h
      go_enter Tryd.func15, Tryd.ntmps15
      go_wp2_with (refine wpList_store rfl 51 _ _ rfl _ _ _ rfl rfl hst ?_)
      go_ret
      exact ⟨rfl, c1⟩
    · have hc := HL.out 6 _ rfl
      clear h
      go_enter Tryd.func15, Tryd.ntmps15
      go_wp2_with (refine wpList_store rfl 51 _ _ rfl _ _ _ rfl rfl hst ?_)
      go_ret
      exact ⟨rfl, c1⟩
    · have hc := HL.out 7 _ rfl
      clear h
      go_enter Tryd.func15, Tryd.ntmps15
      go_wp2_with (refine wpList_store rfl 51 _ _ rfl _ _ _ rfl rfl hst ?_)
      go_ret
      exact ⟨rfl, c1⟩
    · have hc := HL.out 8 _ rfl
      clear h
      go_enter Tryd.func15, Tryd.ntmps15
      go_wp2_with (refine wpList_store rfl 51 _ _ rfl _ _ _ rfl rfl hst ?_)
      go_ret
      exact ⟨rfl, c1⟩
    · have hc := HL.out 9 _ rfl
      clear h
      go_enter Tryd.func15, Tryd.ntmps15
      go_wp2_with (refine wpList_store rfl 51 _ _ rfl _ _ _ rfl rfl hst ?_)
      go_ret
      exact ⟨rfl, c1⟩
    · have hc := HL.out 10 _ rfl
      clear h
      go_enter Tryd.func15, Tryd.ntmps15
      go_wp2_with (refine wpList_store rfl 51 _ _ rfl _ _ _ rfl rfl hst ?_)
      go_ret
      exact ⟨rfl, c1⟩
    · have hc := HL.out 11 _ rfl
      clear h
      go_enter Tryd.func15, Tryd.ntmps15
      go_wp2_with (refine wpList_store rfl 51 _ _ rfl _ _ _ rfl rfl hst ?_)
      go_ret
      exact ⟨rfl, c1⟩
    · have hc := HL.out 12 _ rfl
      clear h
      go_enter Tryd.func15, Tryd.ntmps15
      go_wp2_with (refine wpList_store rfl 51 _ _ rfl _ _ _ rfl rfl hst ?_)
      go_ret
      exact ⟨rfl, c1⟩
    · have hc := HL.out 13 _ rfl
      clear h
      go_enter Tryd.func15, Tryd.ntmps15
      go_wp2_with (refine wpList_store rfl 51 _ _ rfl _ _ _ rfl rfl hst ?_)
      go_ret
      exact ⟨rfl, c1⟩
    · have hc := HL.out 14 _ rfl
      clear h
      go_enter Tryd.func15, Tryd.ntmps15
      go_wp2_with (refine wpList_store rfl 51 _ _ rfl _ _ _ rfl rfl hst ?_)
      go_ret
      exact ⟨rfl, c1⟩
    · have hc := HL.out 15 _ rfl
      clear h
      go_enter Tryd.func15, Tryd.ntmps15
      go_wp2_with (refine wpList_store rfl 51 _ _ rfl _ _ _ rfl rfl hst ?_)
      go_ret
      exact ⟨rfl, c1⟩
    · have hc := HL.out 16 _ rfl
      clear h
      go_enter Tryd.func15, Tryd.ntmps15
      go_wp2_with (refine wpList_store rfl 51 _ _ rfl _ _ _ rfl rfl hst ?_)
      go_ret
      exact ⟨rfl, c1⟩
    · have hc := HL.out 17 _ rfl
      clear h
      go_enter Tryd.func15, Tryd.ntmps15
      go_wp2_with (refine wpList_store rfl 51 _ _ rfl _ _ _ rfl rfl hst ?_)
      go_ret
      exact ⟨rfl, c1⟩
  · have hW : wordOf e = [117, 110, 107, 110, 111, 119, 110] := if_neg h
    rw [hW]
    by_cases h0 : e < 0
    · clear h hW
      go_enter Tryd.func15, Tryd.ntmps15
      go_wp2_with (refine wpList_store rfl 51 _ _ rfl _ _ _ rfl rfl hst ?_)
      go_ret
      exact ⟨rfl, c1⟩
    · have h18 : 18 ≤ e := by omega
      clear h hW
      go_enter Tryd.func15, Tryd.ntmps15
      go_wp2_with (refine wpList_store rfl 51 _ _ rfl _ _ _ rfl rfl hst ?_)
      go_ret
      exact ⟨rfl, c1⟩
end Go.Proofs.YtmnnahkaenikkaaDoor
