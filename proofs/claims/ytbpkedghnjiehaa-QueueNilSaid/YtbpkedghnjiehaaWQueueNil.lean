/-
  The walk of QueueNil: it returns true at every input.
-/
import Derived.Test.YtbpkedghnjiehaaK03b
namespace Go.Proofs.Ytbpkedghnjiehaa
open Go.RowKit
namespace QueueNil
set_option maxRecDepth 100000 in
set_option maxHeartbeats 2000000 in
theorem walk (n : Int) (_wn : (Lit.int .i64 n).wf = true) (w : World) :
    Calls Try.prog 9 #[.int .i64 n] w fun e w' => e = .returned (.bool true) ∧ Below w.heap.size w w' := by
  obtain ⟨W, hW⟩ : ∃ W, W = (w.alloc (.cells #[.int .i64 0, .int .i64 0, .slice none 0 0] 54)).alloc (.cells #[.pointer none, .pointer (some ⟨w.heap.size, 0, none⟩)] 40) := ⟨_, rfl⟩
  have hn0 : NoPk W none := .inl rfl
  have hn1 : NoPk W (some ⟨w.heap.size, 0, none⟩) := by
    rw [hW]
    exact .inr ⟨w.heap.size, rfl, Blk.keep (Blk.new w 54 [.int .i64 0, .int .i64 0, .slice none 0 0]) ((Ch.refl (fun _ => False) _).alloc _) (fun e => e)⟩
  have hB : Below w.heap.size w W := by rw [hW]; (repeat' (first | (with_reducible exact Below.refl _ _) | (with_reducible assumption) | (with_reducible refine Below.alloc ?_ ?_ _) | (with_reducible refine Below.drew ?_) | (with_reducible refine below_drewN ?_ _) | (with_reducible refine Below.setCell ?_ ?_ _) | (with_reducible refine Below.trans ?_ (Below.mono (by assumption) ?_)) | (first | go_size | (with_reducible exact Below.size (by assumption)) | (with_reducible exact Nat.le_trans (Below.size (by assumption)) (Below.size (by assumption))) | (refine Nat.le_trans (Below.size (by assumption)) ?_; go_size))))
  have c0 : W.cell? ⟨w.heap.size + 1, 0, none⟩ = some (.pointer none) := by rw [hW]; go_cell
  have c1 : W.cell? ⟨w.heap.size + 1, 1, none⟩ = some (.pointer (some ⟨w.heap.size, 0, none⟩)) := by rw [hW]; go_cell
  have HW := Lib.hid hW
  clear hW
  go_enter Try.func9, Try.ntmps9
  go_wp2_with fail
  rw [← HW.out]
  refine wp_loop_rounds 3 ?_
  change Code.wp _ _ _ _ _
  go_wp2_with (first
    | (go_at_call 31; refine (lnext_of (Q := fun w' => W = w') none n 0 1 W (pnext_no none n W hn0)).mono ?_; rintro e w' ⟨rfl, rfl⟩)
    | (go_at_call 25; refine (ppicks_no none W hn0).mono ?_; rintro e w' ⟨rfl, rfl⟩)
    | (go_at_call 26; refine (page_no none _ W hn0).mono ?_; rintro e w' ⟨rfl, rfl⟩)
    | (go_at_call 30; refine (pcopy_no none W hn0).mono ?_; rintro e w' ⟨rfl, rfl⟩))
  change Code.wp _ _ _ _ _
  go_wp2_with (first
    | (go_at_call 31; refine (lnext_of (Q := fun w' => W = w') _ n 0 1 W (pnext_no _ n W hn1)).mono ?_; rintro e w' ⟨rfl, rfl⟩)
    | (go_at_call 25; refine (ppicks_no _ W hn1).mono ?_; rintro e w' ⟨rfl, rfl⟩)
    | (go_at_call 26; refine (page_no _ _ W hn1).mono ?_; rintro e w' ⟨rfl, rfl⟩)
    | (go_at_call 30; refine (pcopy_no _ W hn1).mono ?_; rintro e w' ⟨rfl, rfl⟩))
  change Code.wp _ _ _ _ _
  go_wp2_with (first | (go_at_call 10; refine (known_ok _).mono ?_; rintro e w' ⟨rfl, hkb⟩))
  go_ret
  exact ⟨rfl, by (repeat' (first | (with_reducible exact Below.refl _ _) | (with_reducible assumption) | (with_reducible refine Below.alloc ?_ ?_ _) | (with_reducible refine Below.drew ?_) | (with_reducible refine below_drewN ?_ _) | (with_reducible refine Below.setCell ?_ ?_ _) | (with_reducible refine Below.trans ?_ (Below.mono (by assumption) ?_)) | (first | go_size | (with_reducible exact Below.size (by assumption)) | (with_reducible exact Nat.le_trans (Below.size (by assumption)) (Below.size (by assumption))) | (refine Nat.le_trans (Below.size (by assumption)) ?_; go_size))))⟩
end QueueNil
end Go.Proofs.Ytbpkedghnjiehaa
