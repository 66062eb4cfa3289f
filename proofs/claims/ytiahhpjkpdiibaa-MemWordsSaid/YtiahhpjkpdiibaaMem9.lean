/-
  Contracts of package mem: an arena that allows one access.
-/
import Derived.Test.YtiahhpjkpdiibaaMem8
namespace Go.Proofs.Ytiahhpjkpdiibaa
open Go.RowKit

def OnceAt (w : World) (o b : Nat) (k i bf af : Int) : Prop := Blk w o 65 [.pointer (some ⟨b, 0, none⟩), .int .i64 k, .int .i64 i, .int .u64 bf, .int .u64 af]

theorem ozero_ok (o b : Nat) (k i bf af : Int) (w : World) (h : OnceAt w o b k i bf af) :
    Calls Try.prog 33 #[.pointer (some ⟨o, 0, none⟩)] w fun e w' => e = .returned (.bool false) ∧ w = w' := by
  have h0 := h.cell 0
  go_enter Try.func33, Try.ntmps33
  go_wp2
  go_ret
  exact ⟨rfl, rfl⟩

theorem new_once_ok (b g c : Nat) (ws : List Int) (w : World) (h : MemAt w b g c ws) :
    Calls Try.prog 19 #[.pointer (some ⟨b, 0, none⟩)] w fun e w' => e = .returned (.tuple #[.pointer (some ⟨w.heap.size, 0, none⟩), .int .i64 0]) ∧ OnceAt w' w.heap.size b 0 0 0 0 ∧ Below w.heap.size w w' := by
  have hm0 := h
  go_enter Try.func19, Try.ntmps19
  go_wp2_with (go_at_call 32; refine (mzero_ok b g c ws _ (hm0.below (by (repeat' (first | (with_reducible exact Below.refl _ _) | (with_reducible assumption) | (with_reducible refine Below.alloc ?_ ?_ _) | (with_reducible refine Below.drew ?_) | (with_reducible refine below_drewN ?_ _) | (with_reducible refine Below.setCell ?_ ?_ _) | (with_reducible refine Below.trans ?_ (Below.mono (by assumption) ?_)) | (first | go_size | (with_reducible exact Below.size (by assumption)) | (with_reducible exact Nat.le_trans (Below.size (by assumption)) (Below.size (by assumption))) | (refine Nat.le_trans (Below.size (by assumption)) ?_; go_size))))))).mono ?_; rintro e w' ⟨rfl, rfl⟩)
  go_ret2
  exact ⟨rfl, Blk.new w _ _, by (repeat' (first | (with_reducible exact Below.refl _ _) | (with_reducible assumption) | (with_reducible refine Below.alloc ?_ ?_ _) | (with_reducible refine Below.drew ?_) | (with_reducible refine below_drewN ?_ _) | (with_reducible refine Below.setCell ?_ ?_ _) | (with_reducible refine Below.trans ?_ (Below.mono (by assumption) ?_)) | (first | go_size | (with_reducible exact Below.size (by assumption)) | (with_reducible exact Nat.le_trans (Below.size (by assumption)) (Below.size (by assumption))) | (refine Nat.le_trans (Below.size (by assumption)) ?_; go_size))))⟩

theorem olen_ok (o b g c : Nat) (ws : List Int) (k i bf af : Int) (w : World) (h : OnceAt w o b k i bf af) (hm : MemAt w b g c ws) :
    Calls Try.prog 20 #[.pointer (some ⟨o, 0, none⟩)] w fun e w' => e = .returned (.int .i64 ws.length) ∧ w = w' := by
  have h0 := h.cell 0
  have hm0 := hm
  have ho := h
  go_enter Try.func20, Try.ntmps20
  go_wp2_with (first | (go_at_call 33; refine (ozero_ok o b k i bf af _ ho).mono ?_; rintro e w' ⟨rfl, rfl⟩) | (go_at_call 15; refine (mlen_any b g c ws _ hm0).mono ?_; rintro e w' ⟨rfl, rfl⟩))
  go_ret
  exact ⟨rfl, rfl⟩

theorem oaccess_ok (o b : Nat) (k i bf af : Int) (w : World) (h : OnceAt w o b k i bf af) :
    Calls Try.prog 21 #[.pointer (some ⟨o, 0, none⟩)] w fun e w' => e = .returned (acc4 k i bf af) ∧ Below w.heap.size w w' := by
  have h1 := h.cell 1
  have h2 := h.cell 2
  have h3 := h.cell 3
  have h4 := h.cell 4
  have hl := h.lt
  have ho := h
  go_enter Try.func21, Try.ntmps21
  go_wp2_with (go_at_call 33; refine (ozero_ok o b k i bf af _ (ho.keep ((Ch.refl (fun _ => False) _).alloc _) (fun e => e))).mono ?_; rintro e w' ⟨rfl, rfl⟩)
  refine bodyPost_ret (v := acc4 k i bf af) (by simp [results, go_sem]) rfl ?_
  exact ⟨rfl, by (repeat' (first | (with_reducible exact Below.refl _ _) | (with_reducible assumption) | (with_reducible refine Below.alloc ?_ ?_ _) | (with_reducible refine Below.drew ?_) | (with_reducible refine below_drewN ?_ _) | (with_reducible refine Below.setCell ?_ ?_ _) | (with_reducible refine Below.trans ?_ (Below.mono (by assumption) ?_)) | (first | go_size | (with_reducible exact Below.size (by assumption)) | (with_reducible exact Nat.le_trans (Below.size (by assumption)) (Below.size (by assumption))) | (refine Nat.le_trans (Below.size (by assumption)) ?_; go_size))))⟩

theorem odo_busy (o b : Nat) (k i bf af k' i' bf' af' : Int) (w : World) (h : OnceAt w o b k i bf af) (hk : k ≠ 0) :
    Calls Try.prog 57 #[.pointer (some ⟨o, 0, none⟩), acc4 k' i' bf' af'] w fun e w' => e = .returned (.tuple #[acc4 0 0 0 0, .int .i64 11]) ∧ Below w.heap.size w w' := by
  have h1 := h.cell 1
  have hl := h.lt
  have ho := h
  have hk0 : (k == 0) = false := by rw [beq_eq_false_iff_ne]; exact hk
  go_enter Try.func57, Try.ntmps57
  go_wp2_with (go_at_call 33; refine (ozero_ok o b k i bf af _ (ho.keep ((Ch.of_below (by (repeat' (first | (with_reducible exact Below.refl _ _) | (with_reducible assumption) | (with_reducible refine Below.alloc ?_ ?_ _) | (with_reducible refine Below.drew ?_) | (with_reducible refine below_drewN ?_ _) | (with_reducible refine Below.setCell ?_ ?_ _) | (with_reducible refine Below.trans ?_ (Below.mono (by assumption) ?_)) | (first | go_size | (with_reducible exact Below.size (by assumption)) | (with_reducible exact Nat.le_trans (Below.size (by assumption)) (Below.size (by assumption))) | (refine Nat.le_trans (Below.size (by assumption)) ?_; go_size)))) : Below w.heap.size w _) (fun _ => False))) (fun e => e))).mono ?_; rintro e w' ⟨rfl, rfl⟩)
  refine bodyPost_ret (v := .tuple #[acc4 0 0 0 0, .int .i64 11]) (by simp [results, go_sem]) rfl ?_
  exact ⟨rfl, by (repeat' (first | (with_reducible exact Below.refl _ _) | (with_reducible assumption) | (with_reducible refine Below.alloc ?_ ?_ _) | (with_reducible refine Below.drew ?_) | (with_reducible refine below_drewN ?_ _) | (with_reducible refine Below.setCell ?_ ?_ _) | (with_reducible refine Below.trans ?_ (Below.mono (by assumption) ?_)) | (first | go_size | (with_reducible exact Below.size (by assumption)) | (with_reducible exact Nat.le_trans (Below.size (by assumption)) (Below.size (by assumption))) | (refine Nat.le_trans (Below.size (by assumption)) ?_; go_size))))⟩
end Go.Proofs.Ytiahhpjkpdiibaa
