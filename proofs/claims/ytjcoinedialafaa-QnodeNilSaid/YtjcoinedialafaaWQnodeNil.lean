/-
  The walk of QnodeNil: it returns true for all numbers.
-/
import Derived.Test.YtjcoinedialafaaQnode
import Derived.Test.YtjcoinedialafaaK07
namespace Go.Proofs.Ytjcoinedialafaa
open Go.RowKit
namespace QnodeNil
set_option maxRecDepth 100000 in
set_option maxHeartbeats 4000000 in
theorem walk (a b x : Int) (w : World) :
    Calls Try.prog 7 #[.int .i64 a, .int .i64 b, .int .u64 x] w fun e w' => e = .returned (.bool true) ∧ Below w.heap.size w w' := by
  by_cases ha : a < 0
  rotate_left
  have hd : decide (a < 0) = false := by simpa using ha
  all_goals
    go_enter Try.func7, Try.ntmps7
    go_wp2_with (first | (go_at_call 10; refine (known_ok _).mono ?_; rintro e w' ⟨rfl, hg⟩) | go_in)
    refine wp_loop_rounds 3 ?_
    change Code.wp _ _ _ _ _
    go_wp2_with (first | (go_at_call 10; refine (known_ok _).mono ?_; rintro e w' ⟨rfl, hg⟩) | (go_at_call 28; (first | (with_reducible refine (same_z1 _ (.pointer none) _ (fun _ => zero_nil _)).mono ?_) | (with_reducible refine (same_z2 _ (.pointer (some ⟨w.heap.size, 0, none⟩)) (.pointer none) (fun _ => zero_ok _ 1 _ (by go_cell) (by omega)) (fun _ => zero_nil _)).mono ?_)); rintro e w' ⟨rfl, nn, rfl⟩) | go_in)
    change Code.wp _ _ _ _ _
    go_wp2_with (first | (go_at_call 10; refine (known_ok _).mono ?_; rintro e w' ⟨rfl, hg⟩) | (go_at_call 28; (first | (with_reducible refine (same_z1 _ (.pointer (some ⟨w.heap.size + 1, 0, none⟩)) _ (fun _ => zero_zero _ _ (by go_cell))).mono ?_) | (with_reducible refine (same_z2 _ (.pointer (some ⟨w.heap.size, 0, none⟩)) (.pointer (some ⟨w.heap.size + 1, 0, none⟩)) (fun _ => zero_ok _ 1 _ (by go_cell) (by omega)) (fun _ => zero_zero _ _ (by go_cell))).mono ?_)); rintro e w' ⟨rfl, nn, rfl⟩) | go_in)
    change Code.wp _ _ _ _ _
    go_wp2_with (first | (go_at_call 10; refine (known_ok _).mono ?_; rintro e w' ⟨rfl, hg⟩) | go_in)
    go_ret
    exact ⟨rfl, by (repeat' (first | (with_reducible exact Below.refl _ _) | (with_reducible assumption) | (with_reducible refine Below.alloc ?_ ?_ _) | (with_reducible refine Below.drew ?_) | (with_reducible refine below_drewN ?_ _) | (with_reducible refine Below.setCell ?_ ?_ _) | (with_reducible refine Below.trans ?_ (Below.mono (by assumption) ?_)) | go_size))⟩
end QnodeNil
end Go.Proofs.Ytjcoinedialafaa
