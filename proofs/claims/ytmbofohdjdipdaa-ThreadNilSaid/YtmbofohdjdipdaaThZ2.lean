/-
  Contracts of package thread: chains with no program in a place, a machine over no memory.
-/
import Derived.Test.YtmbofohdjdipdaaThZ
namespace Go.Proofs.Ytmbofohdjdipdaa
open Go.RowKit
theorem nilc_nil (w : World) : (nilAhead 285 72 (.pointer none) "Copy").run Try.prog w = .ok (some false) w := by kernel_rfl
theorem nilc_method (w : World) : (method 285 72 (.pointer none) "Copy").run Try.prog w = .ok (34, .pointer none) w := by kernel_rfl
theorem copied_nilcode (w : World) : Calls Try.prog 65 #[.iface 72 (.pointer none)] w fun e w' => e = .returned .nilIface ∧ w = w' := by
  have h1 := nilc_nil
  have h2 := nilc_method
  go_enter Try.func65, Try.ntmps65
  go_wp2_with (go_at_call 34; refine (zc_copy none _ (.inl rfl)).mono ?_; rintro e w6 ⟨rfl, rfl⟩)
  go_ret
  exact ⟨rfl, rfl⟩
theorem mcopy_nil (w : World) : Calls Try.prog 44 #[.pointer none] w fun e w' => e = .returned (.pointer none) ∧ w = w' := by
  have hz := mzero_nil w
  go_enter Try.func44, Try.ntmps44
  go_wp2_with (go_at_call 76; refine hz.mono ?_; rintro e w1 ⟨rfl, rfl⟩)
  go_ret
  exact ⟨rfl, rfl⟩
theorem manew_nil (w : World) : Calls Try.prog 12 #[.pointer none] w fun e w' => e = .returned (.tuple #[.pointer none, .int .i64 1]) ∧ w = w' := by
  have hz := mcopy_nil w
  go_enter Try.func12, Try.ntmps12
  go_wp2_with (go_at_call 44; refine hz.mono ?_; rintro e w1 ⟨rfl, rfl⟩)
  go_ret2
  exact ⟨rfl, rfl⟩
theorem chain_nilcode (b : Nat) (w : World) (hc : w.cell? ⟨b, 0, none⟩ = some (.iface 72 (.pointer none))) :
    Calls Try.prog 30 #[.slice (some ⟨b, 0, none⟩) 1 1] w fun e w' => e = .returned (.tuple #[.nilIface, .int .i64 1]) ∧ Below w.heap.size w w' := by
  go_enter Try.func30, Try.ntmps30
  go_wp2_with fail
  go_loopw [12] (fun v12 wr => v12 = .int .i64 0 ∧ wr = w.alloc (.cells #[.slice none 0 0] 147)) (fun _ _ => 0)
  case atStart => exact ⟨rfl, rfl⟩
  case round =>
    obtain ⟨rfl, rfl⟩ := hrel
    have hc2 := ((Ch.refl (fun _ => False) w).alloc (.cells #[.slice none 0 0] 147)).keeps hc (fun e => e)
    have hbl := World.block_lt_of_cell? _ _ hc2
    go_wp2_with (go_at_call 65; refine (copied_nilcode _).mono ?_; rintro e w6 ⟨rfl, rfl⟩)
    go_ret2
    exact ⟨rfl, by (repeat' (first | (with_reducible exact Below.refl _ _) | (with_reducible assumption) | (with_reducible refine Below.alloc ?_ ?_ _) | (with_reducible refine Below.drew ?_) | (with_reducible refine below_drewN ?_ _) | (with_reducible refine Below.setCell ?_ ?_ _) | (with_reducible refine Below.trans ?_ (Below.mono (by assumption) ?_)) | (first | go_size | (with_reducible exact Below.size (by assumption)) | (with_reducible exact Nat.le_trans (Below.size (by assumption)) (Below.size (by assumption))) | (refine Nat.le_trans (Below.size (by assumption)) ?_; go_size))))⟩
set_option maxRecDepth 100000 in
set_option maxHeartbeats 2000000 in
theorem chain_cn (b : Nat) (q : CdR) (w : World) (hr0 : w.cell? ⟨b, 0, none⟩ = some (codeI q.r)) (hr1 : w.cell? ⟨b, 1, none⟩ = some .nilIface) (hcd : CdAt w q.r q.i q.cap q.c) :
    Calls Try.prog 30 #[.slice (some ⟨b, 0, none⟩) 2 2] w fun e w' => e = .returned (.tuple #[.nilIface, .int .i64 1]) ∧ Below w.heap.size w w' := by
  obtain ⟨i0, hi0, hz0, hz1, hz2⟩ := info_parts progInfo
  have hbl := World.block_lt_of_cell? _ _ hr0
  dsimp only at hbl
  go_enter Try.func30, Try.ntmps30
  go_wp2_with fail
  go_loopw [12] (fun v12 wr => ∃ (k : Nat) (v : Value) (ps : List CdR), k ≤ 1 ∧ v12 = .int .i64 k ∧ CpS w wr w.heap.size (([q].take k).map (·.c)) ps v) (fun v12 _ => 1 - (intOf v12).toNat)
  case atStart => exact ⟨0, .slice none 0 0, [], Nat.zero_le _, rfl, ⟨by (repeat' (first | (with_reducible exact Below.refl _ _) | (with_reducible assumption) | (with_reducible refine Below.alloc ?_ ?_ _) | (with_reducible refine Below.drew ?_) | (with_reducible refine below_drewN ?_ _) | (with_reducible refine Below.setCell ?_ ?_ _) | (with_reducible refine Below.trans ?_ (Below.mono (by assumption) ?_)) | (first | go_size | (with_reducible exact Below.size (by assumption)) | (with_reducible exact Nat.le_trans (Below.size (by assumption)) (Below.size (by assumption))) | (refine Nat.le_trans (Below.size (by assumption)) ?_; go_size)))), Blk.new w _ _, own_none _ _ _ _, rfl, (fun p hp => by cases hp), (fun p hp => by cases hp), by simp, Nat.le_refl _⟩⟩
  case round =>
    obtain ⟨k, v, ps, hk, rfl, hS⟩ := hrel
    by_cases hlt : k < 1
    · obtain rfl : k = 0 := by omega
      rw [show ((0 : Nat) : Int) = 0 from rfl]
      have hcell : wr.cell? ⟨b, 0, none⟩ = some (codeI q.r) := (Ch.of_below hS.below (fun _ => False)).keeps hr0 (fun e => e)
      have hcq := hcd.below hS.below
      have HTK := Lib.hid (take_map_snoc [q] 0 q rfl)
      have hv0 : wr.cell? ⟨w.heap.size, 0, none⟩ = some v := hS.bl.cell 0
      have hvf := hS.bl.frozen 0
      have hvl := hS.bl.lt
      have hpl : ps.length = 0 := by
        have := congrArg List.length hS.eq
        rwa [List.length_map] at this
      have HPL := Lib.hid hpl
      have hzS := hS.below.size
      have hqr := hcq.b.lt
      clear hpl
      go_upto_region 8 with (go_at_call 65; refine (copied_code q.r q.i q.cap q.c _ hcq).mono ?_; rintro e w6 ⟨rfl, hn6, hb6⟩)
      have hz6 := hb6.size
      have hC6 : w6.cell? ⟨w.heap.size, 0, none⟩ = some v := (Ch.of_below hb6 (fun _ => False)).keeps hv0 (fun e => e)
      have hown7 : (w6.alloc (.cells #[codeI wr.heap.size] 62)).ownsRow w.heap.size 62 1 v ps.length (ps.map (fun q => codeI q.r)) := own_keep (own_keep hS.own (Ch.of_below hb6 (fun _ => False)) (fun _ _ _ e => e)) ((Ch.refl (fun _ => False) _).alloc _) (fun _ _ _ e => e)
      have hob8 : v.ownBlock ≠ some w.heap.size := fun e => by
        obtain ⟨cs2, hB⟩ := own_ty hS.own e
        exact Blk.ne hB hS.bl (by decide) rfl
      go_wp2_with (at_builtin; refine wpList_append_rd _ rfl _ _ _ rfl w.heap.size 62 i0 _ 1 16 Try.underlying140 hi0 hz0 hz1 hz2 rfl (by omega) v ps.length (ps.map (fun q => codeI q.r)) rfl hown7 (some ⟨w6.heap.size, 0, none⟩) 1 1 [codeI wr.heap.size] rfl (Rd.of_blk (G := fun _ => True) (Blk.new _ _ _) (List.prefix_refl _) trivial) (fun h => by cases h) rfl (by simp [Value.oneCell']) (by unfold maxLen; have := HPL.out; omega) (by have := HPL.out; omega) (by simp only [World.size_alloc]; omega) ?_)
      intro v8 w8 hown8 hch8 _
      obtain ⟨A8, c8, rfl, _, _⟩ := own_slice hown8
      have hC8 := hch8.keeps (((Ch.refl (fun _ => False) w6).alloc (.cells #[codeI wr.heap.size] 62)).keeps hC6 (fun e => e)) hob8
      have hC8f : w8.frozen? ⟨w.heap.size, 0, none⟩ = false := by
        rw [hch8.frozen (p := ⟨w.heap.size, 0, none⟩) (by simp only [World.size_alloc]; omega) hob8]
        exact ((hS.bl.keep (Ch.of_below hb6 (fun _ => False)) (fun e => e)).keep ((Ch.refl (fun _ => False) _).alloc _) (fun e => e)).frozen 0
      have hS9 := hS.add (Below.refl _ _) hb6 hn6 (Nat.le_refl _) _ _ hch8 hown8
      rw [← HTK.out] at hS9
      clear hown8 hch8 hS hown7 HTK
      go_wp2_with fail
      go_roundw
      case rel => exact ⟨1, _, _, by omega, rfl, hS9⟩
      case measure => simp [intOf]
    · obtain rfl : k = 1 := by omega
      rw [show ((1 : Nat) : Int) = 1 from rfl]
      have hcell : wr.cell? ⟨b, 1, none⟩ = some .nilIface := (Ch.of_below hS.below (fun _ => False)).keeps hr1 (fun e => e)
      have hb := hS.below
      clear hS
      go_wp2_with (go_at_call 65; refine (copied_nil _).mono ?_; rintro e w6 ⟨rfl, rfl⟩)
      go_ret2
      exact ⟨rfl, by (repeat' (first | (with_reducible exact Below.refl _ _) | (with_reducible assumption) | (with_reducible refine Below.alloc ?_ ?_ _) | (with_reducible refine Below.drew ?_) | (with_reducible refine below_drewN ?_ _) | (with_reducible refine Below.setCell ?_ ?_ _) | (with_reducible refine Below.trans ?_ (Below.mono (by assumption) ?_)) | (first | go_size | (with_reducible exact Below.size (by assumption)) | (with_reducible exact Nat.le_trans (Below.size (by assumption)) (Below.size (by assumption))) | (refine Nat.le_trans (Below.size (by assumption)) ?_; go_size))))⟩
end Go.Proofs.Ytmbofohdjdipdaa
