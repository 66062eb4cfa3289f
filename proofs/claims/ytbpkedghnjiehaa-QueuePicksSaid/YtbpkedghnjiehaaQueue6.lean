/-
  Contracts of package queue, sixth part: who is urgent, Next, New, Copy.
-/
import Derived.Test.YtbpkedghnjiehaaQueue5
namespace Go.Proofs.Ytbpkedghnjiehaa
open Go.RowKit

def UrgP (w : World) (ag : List Int) (n : Nat) (size : Int) (e : Ending) (w' : World) : Prop :=
  ∃ d0 : Nat, First ag n d0 ∧ e = .returned (.tuple #[.int .i64 d0, .bool (urgB ag n size)]) ∧ Below w.heap.size w w'
set_option maxRecDepth 100000 in
set_option maxHeartbeats 2000000 in
theorem urgent_ok (b g c : Nat) (size : Int) (picks : Nat) (ag : List Int) (n : Nat) (w : World) (h : PkAt w b g c size picks ag) (hn : ag.length = n) (hm : n ≤ 19) (hp : picks ≤ 1000000) :
    Calls Try.prog 43 #[.pointer (some ⟨b, 0, none⟩)] w (UrgP w ag n size) := by
  have hlo := h.lo
  have hsz := h.sz
  have hlt := h.lt
  have hcap := h.cap
  have h2 := h.c2
  rw [hn] at h2 hcap
  have HN := Lib.hid hn
  have hn1 : 1 ≤ n := by omega
  have hmk := fun W => make_int n (by omega) W
  have hgl : g < w.heap.size := hlt.2
  have hbl : b < w.heap.size := hlt.1
  clear hn hlo hlt
  go_enter Try.func43, Try.ntmps43
  go_wp2_with fail
  go_loopw [16] (fun v wr => ∃ k : Nat, v = .int .i64 k ∧ k ≤ n ∧ Blk wr w.heap.size 40 [.pointer (some ⟨b, 0, none⟩)] ∧ Blk wr (w.heap.size + 1) 3 (ints (fillL k n)) ∧ Below w.heap.size w wr) (fun v _ => n - (intOf v).toNat)
  case atStart =>
    refine ⟨0, rfl, Nat.zero_le _, ?_, ?_, by (repeat' (first | (with_reducible exact Below.refl _ _) | (with_reducible assumption) | (with_reducible refine Below.alloc ?_ ?_ _) | (with_reducible refine Below.drew ?_) | (with_reducible refine below_drewN ?_ _) | (with_reducible refine Below.setCell ?_ ?_ _) | (with_reducible refine Below.trans ?_ (Below.mono (by assumption) ?_)) | (first | go_size | (with_reducible exact Below.size (by assumption)) | (with_reducible exact Nat.le_trans (Below.size (by assumption)) (Below.size (by assumption))) | (refine Nat.le_trans (Below.size (by assumption)) ?_; go_size))))⟩
    · exact Blk.keep (Blk.new w _ [_]) ((Ch.refl (fun _ => False) _).alloc _) (fun e => e)
    · rw [fillL_zero]
      have := Blk.new (w.alloc (.cells #[.pointer (some ⟨b, 0, none⟩)] 40)) 3 (ints (zeros n))
      rwa [World.size_alloc] at this
  case round =>
    obtain ⟨k, rfl, hk, hR, hB, hb⟩ := hrel
    have hbsz := hb.size
    by_cases hlt : k < n
    · have hcc := hB.cell k
      rw [ints_get (fillL_get k n k hlt), if_neg (by omega)] at hcc
      have hfz := hB.frozen k
      have hset := hB.set k (.int .i64 k)
      rw [ints_set, ← fillL_succ] at hset
      have hne : w.heap.size ≠ w.heap.size + 1 := by omega
      have hR2 := hR.keep ((Ch.refl (fun j => j = w.heap.size + 1) wr).setCell (p := ⟨w.heap.size + 1, k, none⟩) (.inl rfl) (.int .i64 k)) hne
      have i1 : (0 : Int) ≤ k := Int.natCast_nonneg _
      have i2 : (k : Int) < n := by omega
      clear hne
      go_wp2_with fail
      go_roundw
      case rel => exact ⟨k + 1, by go_num, by omega, hR2, hset, by (repeat' (first | (with_reducible exact Below.refl _ _) | (with_reducible assumption) | (with_reducible refine Below.alloc ?_ ?_ _) | (with_reducible refine Below.drew ?_) | (with_reducible refine below_drewN ?_ _) | (with_reducible refine Below.setCell ?_ ?_ _) | (with_reducible refine Below.trans ?_ (Below.mono (by assumption) ?_)) | (first | go_size | (with_reducible exact Below.size (by assumption)) | (with_reducible exact Nat.le_trans (Below.size (by assumption)) (Below.size (by assumption))) | (refine Nat.le_trans (Below.size (by assumption)) ?_; go_size))))⟩
      case measure => simp [intOf]; omega
    · obtain rfl : k = n := by omega
      rw [fillL_full] at hB
      have hz1 := hB.lt
      go_wp2_with fail
      refine (stable_ok w.heap.size b g c (w.heap.size + 1) size picks ag k wr (h.below hb) HN.out hm (hR.cell 0) hB (by omega) (by omega) (by omega)).mono ?_
      rintro e w1 ⟨d, rfl, hO, hD, hC⟩
      have hb1 : Below w.heap.size w w1 := hb.trans (hC.below (fun j _ e => by omega) hb.size)
      have hP1 := h.below hb1
      have hR1 := (hR.keep hC (by omega)).cell 0
      have p0 := hP1.c0
      have p2 := hP1.c2
      rw [HN.out] at p2
      obtain ⟨d0, hd0, hF⟩ := hO.first hn1
      have hdl := hO.length
      have HDL := Lib.hid hdl
      have HO := Lib.hid hO
      have HD0 := Lib.hid hd0
      have hz2 := hD.lt
      have c0 := hD.cell 0
      rw [ints_at d 0 (by omega), hd0] at c0
      clear hR hB hb hC hdl hO hd0 hbsz
      have sw : IntKind.i64.wrap (size - 1) = size - 1 := IntWalk.i64_in _ (by omega)
      have HSW := Lib.hid sw
      clear sw
      go_wp2_with fail
      go_loopw [29] (fun v wq => ∃ i q : Nat, v = .int .i64 i ∧ i ≤ k ∧ wq = w1.drewN q ∧ ∀ j, j < i → ¬ (size - 1 ≤ agA ag (d.getD j 0) + (j : Int))) (fun v _ => k - (intOf v).toNat)
      case atStart => exact ⟨0, 0, rfl, Nat.zero_le _, rfl, fun j hj => by omega⟩
      case round =>
        obtain ⟨i, q, rfl, hi, rfl, hall⟩ := hrel
        have HALL := Lib.hid hall
        clear hall
        by_cases hlti : i < k
        · obtain ⟨t, ht⟩ : ∃ t : Nat, d.getD i 0 = t := ⟨(d.getD i 0).toNat, by have := HO.out.get i hlti; omega⟩
          have htk : t < k := by have := HO.out.get i hlti; omega
          have ci := hD.cell i
          rw [ints_at d i (by rw [HDL.out]; omega), ht] at ci
          have ca := hP1.age (i := t) (by rw [HN.out]; exact htk)
          have hbd := hP1.bd (i := t) (by rw [HN.out]; exact htk)
          have hag : agA ag (d.getD i 0) = ag.getD t 0 := by rw [ht, agA_nat]
          generalize ag.getD t 0 = x at ca hbd hag
          have HAG := Lib.hid hag
          have i1 : (0 : Int) ≤ i := Int.natCast_nonneg _
          have i2 : (i : Int) < k := by omega
          have i3 : (0 : Int) ≤ t := Int.natCast_nonneg _
          have i4 : (t : Int) < k := by omega
          have i5 : (t : Int) < c := by omega
          have sx : IntKind.i64.wrap (x + i) = x + i := IntWalk.i64_in _ (by omega)
          have sw := HSW.out
          clear ht hag
          by_cases hu : size - 1 ≤ x + i
          · have hub : urgB ag k size = true := (HO.out.urg size).2 ⟨i, hlti, by rw [HAG.out]; exact hu⟩
            have HUB := Lib.hid hub
            have hd : decide (size - 1 ≤ x + i) = true := decide_eq_true hu
            clear hub hu
            go_wp2_with (go_quiet (fail))
            go_ret2
            exact ⟨d0, hF, by rw [HUB.out]; rfl, by (repeat' (first | (with_reducible exact Below.refl _ _) | (with_reducible assumption) | (with_reducible refine Below.alloc ?_ ?_ _) | (with_reducible refine Below.drew ?_) | (with_reducible refine below_drewN ?_ _) | (with_reducible refine Below.setCell ?_ ?_ _) | (with_reducible refine Below.trans ?_ (Below.mono (by assumption) ?_)) | (first | go_size | (with_reducible exact Below.size (by assumption)) | (with_reducible exact Nat.le_trans (Below.size (by assumption)) (Below.size (by assumption))) | (refine Nat.le_trans (Below.size (by assumption)) ?_; go_size))))⟩
          · have hall2 : ∀ j, j < i + 1 → ¬ (size - 1 ≤ agA ag (d.getD j 0) + (j : Int)) := fun j hj => by
              by_cases e : j = i
              · subst e; rw [HAG.out]; exact hu
              · exact HALL.out j (by omega)
            have HALL2 := Lib.hid hall2
            have hd : decide (size - 1 ≤ x + i) = false := decide_eq_false hu
            clear hall2 hu
            go_wp2_with (go_quiet (fail))
            go_roundw
            case rel => exact ⟨i + 1, _, by go_num, by omega, by first | rfl | exact World.drewN_drewN _ _ _, HALL2.out⟩
            case measure => simp [intOf]; omega
        · obtain rfl : k = i := by omega
          have hub : urgB ag k size = false := by
            rw [Bool.eq_false_iff]
            intro e
            obtain ⟨j, hj, hu⟩ := (HO.out.urg size).1 e
            exact HALL.out j hj hu
          have HUB := Lib.hid hub
          clear hub
          go_wp2_with fail
          go_ret2
          exact ⟨d0, hF, by rw [HUB.out]; rfl, by (repeat' (first | (with_reducible exact Below.refl _ _) | (with_reducible assumption) | (with_reducible refine Below.alloc ?_ ?_ _) | (with_reducible refine Below.drew ?_) | (with_reducible refine below_drewN ?_ _) | (with_reducible refine Below.setCell ?_ ?_ _) | (with_reducible refine Below.trans ?_ (Below.mono (by assumption) ?_)) | (first | go_size | (with_reducible exact Below.size (by assumption)) | (with_reducible exact Nat.le_trans (Below.size (by assumption)) (Below.size (by assumption))) | (refine Nat.le_trans (Below.size (by assumption)) ?_; go_size))))⟩
end Go.Proofs.Ytbpkedghnjiehaa
