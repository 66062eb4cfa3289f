/-
  The walk of ThreadNil: it returns true at every input.
-/
import Derived.Test.YtmbofohdjdipdaaThZ2
namespace Go.Proofs.Ytmbofohdjdipdaa
open Go.RowKit
namespace ThreadNil
theorem program1 (s : SlR) (l : List Ins) (w : World) (hl : s.l = l) (hs : LitAt w s) (hok : codeOkB l = true) :
    Calls Try.prog 22 #[.slice (some ⟨w.heap.size, 0, none⟩) 1 1] (w.alloc (.cells #[s.v] 64)) fun e w' => ∃ r i cap, e = .returned (codeI r) ∧ CdAt w' r i cap (newCd l) ∧ Below w.heap.size w w' := by
  subst hl
  have hb : Below w.heap.size w (w.alloc (.cells #[s.v] 64)) := (Below.refl _ _).alloc (Nat.le_refl _) _
  refine (program_ok _ [s] 1 1 _ (Rd.of_blk (Blk.new w 64 [s.v]) (List.prefix_refl _) (by simp)) rfl (Nat.le_refl _) (by omega) (fun x hx => ?_) (fun x hx => ?_)).mono ?_
  · rw [List.mem_singleton] at hx; subst hx; exact (hs.below hb).ok
  · rw [List.mem_singleton] at hx; subst hx; exact hok
  · rintro e w' ⟨hb2, d, fs, rfl, hp, hf⟩
    obtain ⟨r, i, cap, rfl, rfl, hc⟩ := hp
    exact ⟨r, i, cap, rfl, hc, hb.trans (hb2.mono hb.size)⟩
set_option maxRecDepth 100000 in
set_option maxHeartbeats 4000000 in
theorem walk (t : Int) (_q : (Lit.int .i64 t).wf = true) (w : World) :
    Calls Try.prog 5 #[.int .i64 t] w fun e w' => e = .returned (.bool true) ∧ Below w.heap.size w w' := by
  clear _q
  go_enter Try.func5, Try.ntmps5
  go_wp2_with fail
  refine (adds_ok _).mono ?_
  rintro e w1 ⟨s, rfl, hl, hn, hs, hB1⟩
  go_wp2_with fail
  refine (program1 s addsL _ hl hs (by decide)).mono ?_
  rintro e w2 ⟨r, i, cap, rfl, hcd, hB2⟩
  have hB2' : Below w.heap.size w w2 := by (repeat' (first | (with_reducible exact Below.refl _ _) | (with_reducible assumption) | (with_reducible refine Below.alloc ?_ ?_ _) | (with_reducible refine Below.drew ?_) | (with_reducible refine below_drewN ?_ _) | (with_reducible refine Below.setCell ?_ ?_ _) | (with_reducible refine Below.trans ?_ (Below.mono (by assumption) ?_)) | (first | go_size | (with_reducible exact Below.size (by assumption)) | (with_reducible exact Nat.le_trans (Below.size (by assumption)) (Below.size (by assumption))) | (refine Nat.le_trans (Below.size (by assumption)) ?_; go_size))))
  clear hl hn hs hB1 hB2
  go_wp2_with fail
  refine (made_ok _ [0] 1 1 _ (Rd.of_blk (Blk.new w2 33 [.int .u64 0]) (List.prefix_refl _) (by simp)) rfl (by omega) (by omega) (by omega) (by simp)).mono ?_
  rintro e w3 ⟨mb, mg, rfl, hm, _, _, hB3⟩
  have hc3 := hcd.below (w' := w3) (by (repeat' (first | (with_reducible exact Below.refl _ _) | (with_reducible assumption) | (with_reducible refine Below.alloc ?_ ?_ _) | (with_reducible refine Below.drew ?_) | (with_reducible refine below_drewN ?_ _) | (with_reducible refine Below.setCell ?_ ?_ _) | (with_reducible refine Below.trans ?_ (Below.mono (by assumption) ?_)) | (first | go_size | (with_reducible exact Below.size (by assumption)) | (with_reducible exact Nat.le_trans (Below.size (by assumption)) (Below.size (by assumption))) | (refine Nat.le_trans (Below.size (by assumption)) ?_; go_size)))))
  have hB3' : Below w.heap.size w w3 := by (repeat' (first | (with_reducible exact Below.refl _ _) | (with_reducible assumption) | (with_reducible refine Below.alloc ?_ ?_ _) | (with_reducible refine Below.drew ?_) | (with_reducible refine below_drewN ?_ _) | (with_reducible refine Below.setCell ?_ ?_ _) | (with_reducible refine Below.trans ?_ (Below.mono (by assumption) ?_)) | (first | go_size | (with_reducible exact Below.size (by assumption)) | (with_reducible exact Nat.le_trans (Below.size (by assumption)) (Below.size (by assumption))) | (refine Nat.le_trans (Below.size (by assumption)) ?_; go_size))))
  clear hB3 hB2' hcd
  have n1 := nil_Step_Code r
  have n2 := method_Step_Code r
  have n3 := nil_Done_Code r
  have n4 := method_Done_Code r
  go_wp2_with fail
  refine (cstep_nil _ _ _ _ _ hc3).mono ?_
  rintro e w4 ⟨rfl, rfl⟩
  go_wp2_with fail
  refine (cdone_any _ _ _ _ _ hc3).mono ?_
  rintro e w4 ⟨rfl, rfl⟩
  rw [show (newCd addsL).ended = false from rfl]
  go_wp2_with fail
  refine (manew_nil _).mono ?_
  rintro e w4 ⟨rfl, rfl⟩
  go_wp2_with fail
  have hb4 := Blk.new w3 62 [codeI r, .nilIface]
  refine (chain_cn w3.heap.size ⟨r, i, cap, newCd addsL⟩ _ (hb4.cell 0) (hb4.cell 1) (hc3.below (by (repeat' (first | (with_reducible exact Below.refl _ _) | (with_reducible assumption) | (with_reducible refine Below.alloc ?_ ?_ _) | (with_reducible refine Below.drew ?_) | (with_reducible refine below_drewN ?_ _) | (with_reducible refine Below.setCell ?_ ?_ _) | (with_reducible refine Below.trans ?_ (Below.mono (by assumption) ?_)) | (first | go_size | (with_reducible exact Below.size (by assumption)) | (with_reducible exact Nat.le_trans (Below.size (by assumption)) (Below.size (by assumption))) | (refine Nat.le_trans (Below.size (by assumption)) ?_; go_size))))))).mono ?_
  rintro e w5 ⟨rfl, hB5⟩
  have hc5 := hc3.below (w' := w5) (by (repeat' (first | (with_reducible exact Below.refl _ _) | (with_reducible assumption) | (with_reducible refine Below.alloc ?_ ?_ _) | (with_reducible refine Below.drew ?_) | (with_reducible refine below_drewN ?_ _) | (with_reducible refine Below.setCell ?_ ?_ _) | (with_reducible refine Below.trans ?_ (Below.mono (by assumption) ?_)) | (first | go_size | (with_reducible exact Below.size (by assumption)) | (with_reducible exact Nat.le_trans (Below.size (by assumption)) (Below.size (by assumption))) | (refine Nat.le_trans (Below.size (by assumption)) ?_; go_size)))))
  have hm5 := hm.below (w' := w5) (by (repeat' (first | (with_reducible exact Below.refl _ _) | (with_reducible assumption) | (with_reducible refine Below.alloc ?_ ?_ _) | (with_reducible refine Below.drew ?_) | (with_reducible refine below_drewN ?_ _) | (with_reducible refine Below.setCell ?_ ?_ _) | (with_reducible refine Below.trans ?_ (Below.mono (by assumption) ?_)) | (first | go_size | (with_reducible exact Below.size (by assumption)) | (with_reducible exact Nat.le_trans (Below.size (by assumption)) (Below.size (by assumption))) | (refine Nat.le_trans (Below.size (by assumption)) ?_; go_size)))))
  have hB5' : Below w.heap.size w w5 := by (repeat' (first | (with_reducible exact Below.refl _ _) | (with_reducible assumption) | (with_reducible refine Below.alloc ?_ ?_ _) | (with_reducible refine Below.drew ?_) | (with_reducible refine below_drewN ?_ _) | (with_reducible refine Below.setCell ?_ ?_ _) | (with_reducible refine Below.trans ?_ (Below.mono (by assumption) ?_)) | (first | go_size | (with_reducible exact Below.size (by assumption)) | (with_reducible exact Nat.le_trans (Below.size (by assumption)) (Below.size (by assumption))) | (refine Nat.le_trans (Below.size (by assumption)) ?_; go_size))))
  clear hB5 hc3 hm hB3' hb4
  go_wp2_with fail
  have hb6 := Blk.new w5 62 [.iface 72 (.pointer none)]
  refine (chain_nilcode w5.heap.size _ (hb6.cell 0)).mono ?_
  rintro e w7 ⟨rfl, hB7⟩
  have hc7 := hc5.below (w' := w7) (by (repeat' (first | (with_reducible exact Below.refl _ _) | (with_reducible assumption) | (with_reducible refine Below.alloc ?_ ?_ _) | (with_reducible refine Below.drew ?_) | (with_reducible refine below_drewN ?_ _) | (with_reducible refine Below.setCell ?_ ?_ _) | (with_reducible refine Below.trans ?_ (Below.mono (by assumption) ?_)) | (first | go_size | (with_reducible exact Below.size (by assumption)) | (with_reducible exact Nat.le_trans (Below.size (by assumption)) (Below.size (by assumption))) | (refine Nat.le_trans (Below.size (by assumption)) ?_; go_size)))))
  have hm7 := hm5.below (w' := w7) (by (repeat' (first | (with_reducible exact Below.refl _ _) | (with_reducible assumption) | (with_reducible refine Below.alloc ?_ ?_ _) | (with_reducible refine Below.drew ?_) | (with_reducible refine below_drewN ?_ _) | (with_reducible refine Below.setCell ?_ ?_ _) | (with_reducible refine Below.trans ?_ (Below.mono (by assumption) ?_)) | (first | go_size | (with_reducible exact Below.size (by assumption)) | (with_reducible exact Nat.le_trans (Below.size (by assumption)) (Below.size (by assumption))) | (refine Nat.le_trans (Below.size (by assumption)) ?_; go_size)))))
  have hB7' : Below w.heap.size w w7 := by (repeat' (first | (with_reducible exact Below.refl _ _) | (with_reducible assumption) | (with_reducible refine Below.alloc ?_ ?_ _) | (with_reducible refine Below.drew ?_) | (with_reducible refine below_drewN ?_ _) | (with_reducible refine Below.setCell ?_ ?_ _) | (with_reducible refine Below.trans ?_ (Below.mono (by assumption) ?_)) | (first | go_size | (with_reducible exact Below.size (by assumption)) | (with_reducible exact Nat.le_trans (Below.size (by assumption)) (Below.size (by assumption))) | (refine Nat.le_trans (Below.size (by assumption)) ?_; go_size))))
  clear hB7 hc5 hm5 hB5' hb6
  go_wp2_with fail
  obtain ⟨W0, hW0⟩ : ∃ W0, W0 = ((w7.alloc (.cells zc.toArray 85)).alloc (.cells #[.pointer none, .pointer (some ⟨w7.heap.size, 0, none⟩)] 72)) := ⟨_, rfl⟩
  have hsl : Blk W0 (w7.heap.size + 1) 72 [.pointer none, .pointer (some ⟨w7.heap.size, 0, none⟩)] := by
    have := Blk.new (w7.alloc (.cells zc.toArray 85)) 72 [.pointer none, .pointer (some ⟨w7.heap.size, 0, none⟩)]
    rw [World.size_alloc] at this
    rw [hW0]
    exact this
  have hzb : Blk W0 w7.heap.size 85 zc := by
    rw [hW0]
    exact (Blk.new w7 85 zc).keep ((Ch.refl (fun _ => False) _).alloc _) (fun e => e)
  have hb0 : Below w7.heap.size w7 W0 := by rw [hW0]; (repeat' (first | (with_reducible exact Below.refl _ _) | (with_reducible assumption) | (with_reducible refine Below.alloc ?_ ?_ _) | (with_reducible refine Below.drew ?_) | (with_reducible refine below_drewN ?_ _) | (with_reducible refine Below.setCell ?_ ?_ _) | (with_reducible refine Below.trans ?_ (Below.mono (by assumption) ?_)) | (first | go_size | (with_reducible exact Below.size (by assumption)) | (with_reducible exact Nat.le_trans (Below.size (by assumption)) (Below.size (by assumption))) | (refine Nat.le_trans (Below.size (by assumption)) ?_; go_size))))
  have hc0 := hc7.below hb0
  have hm0 := hm7.below hb0
  have hBW : Below w.heap.size w W0 := hB7'.trans (hb0.mono hB7'.size)
  have hat : ∀ k, k < 2 → ∃ P, W0.cell? ⟨w7.heap.size + 1, k, none⟩ = some (.pointer P) ∧ Zc W0 P := fun k hk => by
    rcases (by omega : k = 0 ∨ k = 1) with rfl | rfl
    · exact ⟨none, hsl.cell 0, .inl rfl⟩
    · exact ⟨_, hsl.cell 1, .inr ⟨_, rfl, hzb⟩⟩
  have HAT := Lib.hid hat
  have HW := Lib.hid hW0
  clear hc7 hm7 hB7' hat hsl hzb
  go_loopw [95] (fun v95 wr => ∃ k : Nat, k ≤ 2 ∧ v95 = .int .i64 k ∧ Below W0.heap.size W0 wr) (fun v95 _ => 2 - (intOf v95).toNat)
  case atStart => exact ⟨0, by omega, rfl, by rw [HW.out]; exact Below.refl _ _⟩
  case round =>
    obtain ⟨k, hk, rfl, hb⟩ := hrel
    by_cases hlt : k < 2
    · obtain ⟨P, hcell, hZ⟩ := HAT.out k hlt
      have hcell2 := (Ch.of_below hb (fun _ => False)).keeps hcell (fun e => e)
      have hZ2 := hZ.below hb
      have i1 : (0 : Int) ≤ k := Int.natCast_nonneg _
      have i2 : (k : Int) < 2 := by omega
      clear hcell hZ
      go_wp2_with fail
      refine (zc_step P mb _ (hZ2.below (by (repeat' (first | (with_reducible exact Below.refl _ _) | (with_reducible assumption) | (with_reducible refine Below.alloc ?_ ?_ _) | (with_reducible refine Below.drew ?_) | (with_reducible refine below_drewN ?_ _) | (with_reducible refine Below.setCell ?_ ?_ _) | (with_reducible refine Below.trans ?_ (Below.mono (by assumption) ?_)) | (first | go_size | (with_reducible exact Below.size (by assumption)) | (with_reducible exact Nat.le_trans (Below.size (by assumption)) (Below.size (by assumption))) | (refine Nat.le_trans (Below.size (by assumption)) ?_; go_size))))))).mono ?_
      rintro e w' ⟨rfl, rfl⟩
      go_wp2_with fail
      refine (zc_done P _ (hZ2.below (by (repeat' (first | (with_reducible exact Below.refl _ _) | (with_reducible assumption) | (with_reducible refine Below.alloc ?_ ?_ _) | (with_reducible refine Below.drew ?_) | (with_reducible refine below_drewN ?_ _) | (with_reducible refine Below.setCell ?_ ?_ _) | (with_reducible refine Below.trans ?_ (Below.mono (by assumption) ?_)) | (first | go_size | (with_reducible exact Below.size (by assumption)) | (with_reducible exact Nat.le_trans (Below.size (by assumption)) (Below.size (by assumption))) | (refine Nat.le_trans (Below.size (by assumption)) ?_; go_size))))))).mono ?_
      rintro e w' ⟨rfl, rfl⟩
      go_wp2_with fail
      refine (zc_result P _ (hZ2.below (by (repeat' (first | (with_reducible exact Below.refl _ _) | (with_reducible assumption) | (with_reducible refine Below.alloc ?_ ?_ _) | (with_reducible refine Below.drew ?_) | (with_reducible refine below_drewN ?_ _) | (with_reducible refine Below.setCell ?_ ?_ _) | (with_reducible refine Below.trans ?_ (Below.mono (by assumption) ?_)) | (first | go_size | (with_reducible exact Below.size (by assumption)) | (with_reducible exact Nat.le_trans (Below.size (by assumption)) (Below.size (by assumption))) | (refine Nat.le_trans (Below.size (by assumption)) ?_; go_size))))))).mono ?_
      rintro e w' ⟨rfl, rfl⟩
      go_wp2_with fail
      refine (zc_copy P _ (hZ2.below (by (repeat' (first | (with_reducible exact Below.refl _ _) | (with_reducible assumption) | (with_reducible refine Below.alloc ?_ ?_ _) | (with_reducible refine Below.drew ?_) | (with_reducible refine below_drewN ?_ _) | (with_reducible refine Below.setCell ?_ ?_ _) | (with_reducible refine Below.trans ?_ (Below.mono (by assumption) ?_)) | (first | go_size | (with_reducible exact Below.size (by assumption)) | (with_reducible exact Nat.le_trans (Below.size (by assumption)) (Below.size (by assumption))) | (refine Nat.le_trans (Below.size (by assumption)) ?_; go_size))))))).mono ?_
      rintro e w' ⟨rfl, rfl⟩
      go_wp2_with fail
      go_roundw
      case rel => exact ⟨k + 1, by omega, by go_num, by (repeat' (first | (with_reducible exact Below.refl _ _) | (with_reducible assumption) | (with_reducible refine Below.alloc ?_ ?_ _) | (with_reducible refine Below.drew ?_) | (with_reducible refine below_drewN ?_ _) | (with_reducible refine Below.setCell ?_ ?_ _) | (with_reducible refine Below.trans ?_ (Below.mono (by assumption) ?_)) | (first | go_size | (with_reducible exact Below.size (by assumption)) | (with_reducible exact Nat.le_trans (Below.size (by assumption)) (Below.size (by assumption))) | (refine Nat.le_trans (Below.size (by assumption)) ?_; go_size))))⟩
      case measure => simp [intOf]; omega
    · obtain rfl : k = 2 := by omega
      rw [show ((2 : Nat) : Int) = 2 from rfl]
      go_wp2_with fail
      obtain ⟨W1, hW1⟩ : ∃ W1, W1 = ((wr.alloc (.cells zm.toArray 91)).alloc (.cells #[.pointer none, .pointer (some ⟨wr.heap.size, 0, none⟩)] 28)) := ⟨_, rfl⟩
      have hsl : Blk W1 (wr.heap.size + 1) 28 [.pointer none, .pointer (some ⟨wr.heap.size, 0, none⟩)] := by
        have := Blk.new (wr.alloc (.cells zm.toArray 91)) 28 [.pointer none, .pointer (some ⟨wr.heap.size, 0, none⟩)]
        rw [World.size_alloc] at this
        rw [hW1]
        exact this
      have hzb : Blk W1 wr.heap.size 91 zm := by
        rw [hW1]
        exact (Blk.new wr 91 zm).keep ((Ch.refl (fun _ => False) _).alloc _) (fun e => e)
      have hb1 : Below wr.heap.size wr W1 := by rw [hW1]; (repeat' (first | (with_reducible exact Below.refl _ _) | (with_reducible assumption) | (with_reducible refine Below.alloc ?_ ?_ _) | (with_reducible refine Below.drew ?_) | (with_reducible refine below_drewN ?_ _) | (with_reducible refine Below.setCell ?_ ?_ _) | (with_reducible refine Below.trans ?_ (Below.mono (by assumption) ?_)) | (first | go_size | (with_reducible exact Below.size (by assumption)) | (with_reducible exact Nat.le_trans (Below.size (by assumption)) (Below.size (by assumption))) | (refine Nat.le_trans (Below.size (by assumption)) ?_; go_size))))
      have hc1 := (hc0.below hb).below hb1
      have hBW1 : Below w.heap.size w W1 := (hBW.trans (hb.mono hBW.size)).trans (hb1.mono (Nat.le_trans hBW.size hb.size))
      have hat : ∀ k, k < 2 → ∃ P, W1.cell? ⟨wr.heap.size + 1, k, none⟩ = some (.pointer P) ∧ Zm W1 P := fun k hk => by
        rcases (by omega : k = 0 ∨ k = 1) with rfl | rfl
        · exact ⟨none, hsl.cell 0, .inl rfl⟩
        · exact ⟨_, hsl.cell 1, .inr ⟨_, rfl, hzb⟩⟩
      have HAT1 := Lib.hid hat
      have HW1 := Lib.hid hW1
      have hp1 : ProgAt W1 (codeD r) [r] (.code (newCd addsL)) := ⟨r, i, cap, rfl, rfl, hc1⟩
      clear hat hsl hzb hc0 hm0 hb hBW hb1 HAT HW hc1
      go_loopw [132] (fun v132 wr2 => ∃ k : Nat, k ≤ 2 ∧ v132 = .int .i64 k ∧ Below W1.heap.size W1 wr2) (fun v132 _ => 2 - (intOf v132).toNat)
      case atStart => exact ⟨0, by omega, rfl, by rw [HW1.out]; exact Below.refl _ _⟩
      case round =>
        obtain ⟨k, hk, rfl, hb⟩ := hrel
        by_cases hlt : k < 2
        · obtain ⟨P, hcell, hZ⟩ := HAT1.out k hlt
          have hcell2 := (Ch.of_below hb (fun _ => False)).keeps hcell (fun e => e)
          have hZ2 := hZ.below hb
          have hp2 := hp1.below hb
          have i1 : (0 : Int) ≤ k := Int.natCast_nonneg _
          have i2 : (k : Int) < 2 := by omega
          clear hcell hZ hp1
          go_wp2_with fail
          refine (z_add P (codeD r) [r] _ _ (hZ2.below (by (repeat' (first | (with_reducible exact Below.refl _ _) | (with_reducible assumption) | (with_reducible refine Below.alloc ?_ ?_ _) | (with_reducible refine Below.drew ?_) | (with_reducible refine below_drewN ?_ _) | (with_reducible refine Below.setCell ?_ ?_ _) | (with_reducible refine Below.trans ?_ (Below.mono (by assumption) ?_)) | (first | go_size | (with_reducible exact Below.size (by assumption)) | (with_reducible exact Nat.le_trans (Below.size (by assumption)) (Below.size (by assumption))) | (refine Nat.le_trans (Below.size (by assumption)) ?_; go_size)))))) (hp2.below (by (repeat' (first | (with_reducible exact Below.refl _ _) | (with_reducible assumption) | (with_reducible refine Below.alloc ?_ ?_ _) | (with_reducible refine Below.drew ?_) | (with_reducible refine below_drewN ?_ _) | (with_reducible refine Below.setCell ?_ ?_ _) | (with_reducible refine Below.trans ?_ (Below.mono (by assumption) ?_)) | (first | go_size | (with_reducible exact Below.size (by assumption)) | (with_reducible exact Nat.le_trans (Below.size (by assumption)) (Below.size (by assumption))) | (refine Nat.le_trans (Below.size (by assumption)) ?_; go_size))))))).mono ?_
          rintro e w8 ⟨rfl, hB8⟩
          have hb8 : Below W1.heap.size W1 w8 := by (repeat' (first | (with_reducible exact Below.refl _ _) | (with_reducible assumption) | (with_reducible refine Below.alloc ?_ ?_ _) | (with_reducible refine Below.drew ?_) | (with_reducible refine below_drewN ?_ _) | (with_reducible refine Below.setCell ?_ ?_ _) | (with_reducible refine Below.trans ?_ (Below.mono (by assumption) ?_)) | (first | go_size | (with_reducible exact Below.size (by assumption)) | (with_reducible exact Nat.le_trans (Below.size (by assumption)) (Below.size (by assumption))) | (refine Nat.le_trans (Below.size (by assumption)) ?_; go_size))))
          have hZ8 := hZ2.below (w' := w8) (by (repeat' (first | (with_reducible exact Below.refl _ _) | (with_reducible assumption) | (with_reducible refine Below.alloc ?_ ?_ _) | (with_reducible refine Below.drew ?_) | (with_reducible refine below_drewN ?_ _) | (with_reducible refine Below.setCell ?_ ?_ _) | (with_reducible refine Below.trans ?_ (Below.mono (by assumption) ?_)) | (first | go_size | (with_reducible exact Below.size (by assumption)) | (with_reducible exact Nat.le_trans (Below.size (by assumption)) (Below.size (by assumption))) | (refine Nat.le_trans (Below.size (by assumption)) ?_; go_size)))))
          have hp8 := hp2.below (w' := w8) (by (repeat' (first | (with_reducible exact Below.refl _ _) | (with_reducible assumption) | (with_reducible refine Below.alloc ?_ ?_ _) | (with_reducible refine Below.drew ?_) | (with_reducible refine below_drewN ?_ _) | (with_reducible refine Below.setCell ?_ ?_ _) | (with_reducible refine Below.trans ?_ (Below.mono (by assumption) ?_)) | (first | go_size | (with_reducible exact Below.size (by assumption)) | (with_reducible exact Nat.le_trans (Below.size (by assumption)) (Below.size (by assumption))) | (refine Nat.le_trans (Below.size (by assumption)) ?_; go_size)))))
          clear hB8 hb hZ2 hp2 hcell2
          go_wp2_with fail
          refine (z_step P t _ (hZ8.below (by (repeat' (first | (with_reducible exact Below.refl _ _) | (with_reducible assumption) | (with_reducible refine Below.alloc ?_ ?_ _) | (with_reducible refine Below.drew ?_) | (with_reducible refine below_drewN ?_ _) | (with_reducible refine Below.setCell ?_ ?_ _) | (with_reducible refine Below.trans ?_ (Below.mono (by assumption) ?_)) | (first | go_size | (with_reducible exact Below.size (by assumption)) | (with_reducible exact Nat.le_trans (Below.size (by assumption)) (Below.size (by assumption))) | (refine Nat.le_trans (Below.size (by assumption)) ?_; go_size))))))).mono ?_
          rintro e w9 ⟨rfl, hB9⟩
          have hb9 : Below W1.heap.size W1 w9 := by (repeat' (first | (with_reducible exact Below.refl _ _) | (with_reducible assumption) | (with_reducible refine Below.alloc ?_ ?_ _) | (with_reducible refine Below.drew ?_) | (with_reducible refine below_drewN ?_ _) | (with_reducible refine Below.setCell ?_ ?_ _) | (with_reducible refine Below.trans ?_ (Below.mono (by assumption) ?_)) | (first | go_size | (with_reducible exact Below.size (by assumption)) | (with_reducible exact Nat.le_trans (Below.size (by assumption)) (Below.size (by assumption))) | (refine Nat.le_trans (Below.size (by assumption)) ?_; go_size))))
          have hZ9 := hZ8.below (w' := w9) (by (repeat' (first | (with_reducible exact Below.refl _ _) | (with_reducible assumption) | (with_reducible refine Below.alloc ?_ ?_ _) | (with_reducible refine Below.drew ?_) | (with_reducible refine below_drewN ?_ _) | (with_reducible refine Below.setCell ?_ ?_ _) | (with_reducible refine Below.trans ?_ (Below.mono (by assumption) ?_)) | (first | go_size | (with_reducible exact Below.size (by assumption)) | (with_reducible exact Nat.le_trans (Below.size (by assumption)) (Below.size (by assumption))) | (refine Nat.le_trans (Below.size (by assumption)) ?_; go_size)))))
          have hp9 := hp8.below (w' := w9) (by (repeat' (first | (with_reducible exact Below.refl _ _) | (with_reducible assumption) | (with_reducible refine Below.alloc ?_ ?_ _) | (with_reducible refine Below.drew ?_) | (with_reducible refine below_drewN ?_ _) | (with_reducible refine Below.setCell ?_ ?_ _) | (with_reducible refine Below.trans ?_ (Below.mono (by assumption) ?_)) | (first | go_size | (with_reducible exact Below.size (by assumption)) | (with_reducible exact Nat.le_trans (Below.size (by assumption)) (Below.size (by assumption))) | (refine Nat.le_trans (Below.size (by assumption)) ?_; go_size)))))
          clear hB9 hb8 hZ8 hp8
          go_wp2_with fail
          refine (z_run P _ _ (hZ9.below (by (repeat' (first | (with_reducible exact Below.refl _ _) | (with_reducible assumption) | (with_reducible refine Below.alloc ?_ ?_ _) | (with_reducible refine Below.drew ?_) | (with_reducible refine below_drewN ?_ _) | (with_reducible refine Below.setCell ?_ ?_ _) | (with_reducible refine Below.trans ?_ (Below.mono (by assumption) ?_)) | (first | go_size | (with_reducible exact Below.size (by assumption)) | (with_reducible exact Nat.le_trans (Below.size (by assumption)) (Below.size (by assumption))) | (refine Nat.le_trans (Below.size (by assumption)) ?_; go_size))))))).mono ?_
          rintro e w10 ⟨rfl, rfl⟩
          go_wp2_with fail
          refine (z_put P t (codeD r) [r] _ _ (hZ9.below (by (repeat' (first | (with_reducible exact Below.refl _ _) | (with_reducible assumption) | (with_reducible refine Below.alloc ?_ ?_ _) | (with_reducible refine Below.drew ?_) | (with_reducible refine below_drewN ?_ _) | (with_reducible refine Below.setCell ?_ ?_ _) | (with_reducible refine Below.trans ?_ (Below.mono (by assumption) ?_)) | (first | go_size | (with_reducible exact Below.size (by assumption)) | (with_reducible exact Nat.le_trans (Below.size (by assumption)) (Below.size (by assumption))) | (refine Nat.le_trans (Below.size (by assumption)) ?_; go_size)))))) (hp9.below (by (repeat' (first | (with_reducible exact Below.refl _ _) | (with_reducible assumption) | (with_reducible refine Below.alloc ?_ ?_ _) | (with_reducible refine Below.drew ?_) | (with_reducible refine below_drewN ?_ _) | (with_reducible refine Below.setCell ?_ ?_ _) | (with_reducible refine Below.trans ?_ (Below.mono (by assumption) ?_)) | (first | go_size | (with_reducible exact Below.size (by assumption)) | (with_reducible exact Nat.le_trans (Below.size (by assumption)) (Below.size (by assumption))) | (refine Nat.le_trans (Below.size (by assumption)) ?_; go_size))))))).mono ?_
          rintro e w10 ⟨rfl, hB10⟩
          have hZ10 := hZ9.below (w' := w10) (by (repeat' (first | (with_reducible exact Below.refl _ _) | (with_reducible assumption) | (with_reducible refine Below.alloc ?_ ?_ _) | (with_reducible refine Below.drew ?_) | (with_reducible refine below_drewN ?_ _) | (with_reducible refine Below.setCell ?_ ?_ _) | (with_reducible refine Below.trans ?_ (Below.mono (by assumption) ?_)) | (first | go_size | (with_reducible exact Below.size (by assumption)) | (with_reducible exact Nat.le_trans (Below.size (by assumption)) (Below.size (by assumption))) | (refine Nat.le_trans (Below.size (by assumption)) ?_; go_size)))))
          have hb10 : Below W1.heap.size W1 w10 := by (repeat' (first | (with_reducible exact Below.refl _ _) | (with_reducible assumption) | (with_reducible refine Below.alloc ?_ ?_ _) | (with_reducible refine Below.drew ?_) | (with_reducible refine below_drewN ?_ _) | (with_reducible refine Below.setCell ?_ ?_ _) | (with_reducible refine Below.trans ?_ (Below.mono (by assumption) ?_)) | (first | go_size | (with_reducible exact Below.size (by assumption)) | (with_reducible exact Nat.le_trans (Below.size (by assumption)) (Below.size (by assumption))) | (refine Nat.le_trans (Below.size (by assumption)) ?_; go_size))))
          clear hB10 hb9 hZ9 hp9
          go_wp2_with fail
          refine (z_waits P t w10 hZ10).mono ?_
          rintro e w' ⟨rfl, rfl⟩
          go_wp2_with fail
          refine (z_stuck P w10 hZ10).mono ?_
          rintro e w' ⟨rfl, rfl⟩
          go_wp2_with fail
          refine (z_threads P w10 hZ10).mono ?_
          rintro e w' ⟨rfl, rfl⟩
          go_wp2_with fail
          refine (z_done P t w10 hZ10).mono ?_
          rintro e w' ⟨rfl, rfl⟩
          go_wp2_with fail
          refine (z_result P t w10 hZ10).mono ?_
          rintro e w' ⟨rfl, rfl⟩
          go_wp2_with fail
          refine (z_steps P t w10 hZ10).mono ?_
          rintro e w' ⟨rfl, rfl⟩
          go_wp2_with fail
          refine (z_looks P t w10 hZ10).mono ?_
          rintro e w' ⟨rfl, rfl⟩
          go_wp2_with fail
          refine (z_program P t w10 hZ10).mono ?_
          rintro e w' ⟨rfl, rfl⟩
          go_wp2_with fail
          refine (z_mem P w10 hZ10).mono ?_
          rintro e w' ⟨rfl, rfl⟩
          go_wp2_with fail
          refine (z_copy P w10 hZ10).mono ?_
          rintro e w' ⟨rfl, rfl⟩
          go_wp2_with fail
          go_roundw
          case rel => exact ⟨k + 1, by omega, by go_num, by (repeat' (first | (with_reducible exact Below.refl _ _) | (with_reducible assumption) | (with_reducible refine Below.alloc ?_ ?_ _) | (with_reducible refine Below.drew ?_) | (with_reducible refine below_drewN ?_ _) | (with_reducible refine Below.setCell ?_ ?_ _) | (with_reducible refine Below.trans ?_ (Below.mono (by assumption) ?_)) | (first | go_size | (with_reducible exact Below.size (by assumption)) | (with_reducible exact Nat.le_trans (Below.size (by assumption)) (Below.size (by assumption))) | (refine Nat.le_trans (Below.size (by assumption)) ?_; go_size))))⟩
          case measure => simp [intOf]; omega
        · obtain rfl : k = 2 := by omega
          go_wp2_with fail
          refine (known_ok _).mono ?_
          rintro e w10 ⟨rfl, hB10⟩
          go_wp2
          go_ret
          exact ⟨rfl, by (repeat' (first | (with_reducible exact Below.refl _ _) | (with_reducible assumption) | (with_reducible refine Below.alloc ?_ ?_ _) | (with_reducible refine Below.drew ?_) | (with_reducible refine below_drewN ?_ _) | (with_reducible refine Below.setCell ?_ ?_ _) | (with_reducible refine Below.trans ?_ (Below.mono (by assumption) ?_)) | (first | go_size | (with_reducible exact Below.size (by assumption)) | (with_reducible exact Nat.le_trans (Below.size (by assumption)) (Below.size (by assumption))) | (refine Nat.le_trans (Below.size (by assumption)) ?_; go_size))))⟩
end ThreadNil
end Go.Proofs.Ytmbofohdjdipdaa
